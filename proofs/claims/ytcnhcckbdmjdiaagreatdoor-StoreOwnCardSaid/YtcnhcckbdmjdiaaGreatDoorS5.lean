/- What the layers compute, in plain Lean, and laws about that. Each under the conditions that its own statement names. -/
import Derived.Test.YtcnhcckbdmjdiaaGreatDoorSeatS3
import Derived.Test.YtcnhcckbdmjdiaaGreatDoorBldS
import Derived.Test.YtcnhcckbdmjdiaaGreatDoorEng18
import Derived.Test.YtcnhcckbdmjdiaaGreatDoorSpecS1
import Derived.Test.YtcnhcckbdmjdiaaGreatDoorS4
set_option linter.all false
set_option linter.unusedSimpArgs false
set_option linter.unusedVariables false
namespace Go.Stet
open Go Go.Eng Go.Proofs
set_option maxHeartbeats 400000 in
theorem ref01_Digits (n : Nat) (hn : n ≤ 1000000000) : PureC GG Tryz.prog 59 (fun _ => True) [.int .i64 (((n : Nat) : Int))] (.string (B (digitsS n))) := by
  induction n using Nat.strongRecOn with
  | _ n ih =>
  intro Γ h L w hpre hS
  have hd := digitsS_len (n / 10) (by omega)
  refine Ret.body Tryz.func59 rfl Tryz.ntmps59 (Nat.le_of_ble_eq_true rfl) ?_
  refine WC.seq ?_
  refine WC.region ?_
  refine WL.val1 (R_assign (v := .string (B (([] : Str)))) rfl) ?_
  refine WL.nil ?_
  refine then_normal ?_
  refine WC.seq ?_
  refine WC.region ?_
  refine WL.val1 (R_move (v := .int .i64 (((n : Nat) : Int))) rfl) ?_
  refine WL.val1 (R_rem_i (a := ((n : Nat) : Int)) (b := 10) rfl rfl (by omega) (by omega)) ?_
  refine WL.val1 (R_add_i (a := 48) (b := (((n : Nat) : Int) % 10)) rfl rfl (by omega)) ?_
  refine WL.val1 (R_conv_u8 (a := (48 + (((n : Nat) : Int) % 10))) rfl Tryz.underlying3 Tryz.underlying5 (by omega)) ?_
  refine S_buildSliceC (R := Rby) (m := 1) (vs := [(0, .int .u8 ((48 + (((n : Nat) : Int) % 10))))]) (cells := [.int .u8 ((48 + (((n : Nat) : Int) % 10)))]) (xs := [(UInt8.ofNat ((48 + (((n : Nat) : Int) % 10))).toNat)]) hS Tryz.underlying86 Tryz.sizeOf5 Tryz.zeroValue5 (by decide) (by decide) rfl (by kernel_rfl) (by exact (⟨[.int .u8 ((48 + (((n : Nat) : Int) % 10)))], _, rfl, (Rby_of (by omega)), rfl⟩ : Flat Rby _ [(UInt8.ofNat ((48 + (((n : Nat) : Int) % 10))).toNat)] _)) rfl ?_
  intro h3 b5 w2 hl4 hs6 hS1
  refine WL.val1 (R_b2s (l := [(UInt8.ofNat ((48 + (((n : Nat) : Int) % 10))).toNat)]) hS1 hs6 rfl Tryz.underlying86 Tryz.underlying5 Tryz.underlying9 (by simp)) ?_
  refine WL.val1 (R_assign (v := .string (B ([(UInt8.ofNat ((48 + (((n : Nat) : Int) % 10))).toNat)]))) rfl) ?_
  refine WL.nil ?_
  refine then_normal ?_
  refine WC.seq ?_
  refine WC.seq ?_
  refine WC.region ?_
  refine WL.val1 (R_move (v := .int .i64 (((n : Nat) : Int))) rfl) ?_
  refine WL.val1 (R_lss (a := ((n : Nat) : Int)) (b := 10) rfl rfl) ?_
  refine WL.nil ?_
  refine then_normal ?_
  refine WC.condP (((n : Nat) : Int) < 10) rfl (fun c0 => ?_) (fun c0 => ?_)
  · skip
    refine WC.seq ?_
    refine WC.region ?_
    refine WL.val1 (R_move (v := .string (B ([(UInt8.ofNat ((48 + (((n : Nat) : Int) % 10))).toNat)]))) rfl) ?_
    refine WL.val1 (R_assign (v := .string (B ([(UInt8.ofNat ((48 + (((n : Nat) : Int) % 10))).toNat)]))) rfl) ?_
    refine WL.nil ?_
    refine then_normal ?_
    refine WC.ret ?_
    refine then_ret ?_
    refine top_ret (.string (B ([(UInt8.ofNat ((48 + (((n : Nat) : Int) % 10))).toNat)]))) (gives1 rfl rfl) ?_
    exact ⟨(by apply congrArg Value.string; apply congrArg B; exact (digitsS_lo n _ (by omega) (by omega)).symm), (hS1.weaken_h hl4)⟩
  · skip
    refine WC.skip ?_
    refine then_normal ?_
    refine WC.seq ?_
    refine WC.region ?_
    refine WL.val1 (R_move (v := .int .i64 (((n : Nat) : Int))) rfl) ?_
    refine WL.val1 (R_quo_i (a := ((n : Nat) : Int)) (b := 10) rfl rfl (by omega) (by omega)) ?_
    refine S_callP (vs := [.int .i64 ((((n : Nat) : Int) / 10))]) hS1 Tryz.call59 rfl (ih ((n / 10)) (by omega) (by first | assumption | omega)) trivial ?_
    intro w8 hS7
    refine WL.val1 (R_move (v := .string (B ([(UInt8.ofNat ((48 + (((n : Nat) : Int) % 10))).toNat)]))) rfl) ?_
    refine WL.val1 (R_sadd (a := digitsS ((n / 10))) (b := [(UInt8.ofNat ((48 + (((n : Nat) : Int) % 10))).toNat)]) rfl rfl (by (try simp only [List.length_append, List.length_cons, List.length_nil]); omega)) ?_
    refine WL.val1 (R_assign (v := .string (B ((digitsS ((n / 10)) ++ [(UInt8.ofNat ((48 + (((n : Nat) : Int) % 10))).toNat)])))) rfl) ?_
    refine WL.nil ?_
    refine then_normal ?_
    refine WC.ret ?_
    refine top_ret (.string (B ((digitsS ((n / 10)) ++ [(UInt8.ofNat ((48 + (((n : Nat) : Int) % 10))).toNat)])))) (gives1 rfl rfl) ?_
    exact ⟨(by apply congrArg Value.string; apply congrArg B; exact (digitsS_hi n _ (by omega) (by omega)).symm), (hS7.weaken_h hl4)⟩
set_option maxHeartbeats 400000 in
theorem ref03_Put (s : Str) (hs : s.length ≤ 1000000000) : PureC GG Tryz.prog 51 (fun _ => True) [.string (B (s))] (.string (B (putS s))) := by
  intro Γ h L w hpre hS
  have hd := digitsS_len s.length hs
  refine Ret.body Tryz.func51 rfl Tryz.ntmps51 (Nat.le_of_ble_eq_true rfl) ?_
  refine WC.seq ?_
  refine WC.region ?_
  refine WL.val1 (R_assign (v := .string (B (([] : Str)))) rfl) ?_
  refine WL.nil ?_
  refine then_normal ?_
  refine WC.seq ?_
  refine WC.region ?_
  refine WL.val1 (R_move (v := .string (B (s))) rfl) ?_
  refine WL.val1 (R_slen (a := s) rfl Tryz.underlying9) ?_
  refine S_callP (vs := [.int .i64 ((((s).length : Nat) : Int))]) hS Tryz.call59 rfl (ref01_Digits ((s).length) (by first | assumption | omega)) trivial ?_
  intro w2 hS1
  refine WL.val1 (R_sadd (a := digitsS ((s).length)) (b := ([58] : Str)) rfl rfl (by (try simp only [List.length_append, List.length_cons, List.length_nil]); omega)) ?_
  refine WL.val1 (R_move (v := .string (B (s))) rfl) ?_
  refine WL.val1 (R_sadd (a := (digitsS ((s).length) ++ ([58] : Str))) (b := s) rfl rfl (by (try simp only [List.length_append, List.length_cons, List.length_nil]); omega)) ?_
  refine WL.val1 (R_sadd (a := ((digitsS ((s).length) ++ ([58] : Str)) ++ s)) (b := ([44] : Str)) rfl rfl (by (try simp only [List.length_append, List.length_cons, List.length_nil]); omega)) ?_
  refine WL.val1 (R_assign (v := .string (B ((((digitsS ((s).length) ++ ([58] : Str)) ++ s) ++ ([44] : Str))))) rfl) ?_
  refine WL.nil ?_
  refine then_normal ?_
  refine WC.ret ?_
  refine top_ret (.string (B ((((digitsS ((s).length) ++ ([58] : Str)) ++ s) ++ ([44] : Str))))) (gives1 rfl rfl) ?_
  exact ⟨(by rfl), hS1⟩
set_option maxHeartbeats 400000 in
theorem wire_Put (s : Str) (hs : s.length ≤ 1000000000) : PureC GG Tryz.prog 46 (fun _ => True) [.string (B (s))] (.string (B (putS s))) := by
  intro Γ h L w hpre hS
  have hd := digitsS_len s.length hs
  have hi := itoa_digits s.length
  have hi2 : (Lib.itoa s.length).length ≤ 10 := by rw [hi]; exact hd
  refine Ret.body Tryz.func46 rfl Tryz.ntmps46 (Nat.le_of_ble_eq_true rfl) ?_
  refine WC.seq ?_
  refine WC.region ?_
  refine WL.val1 (R_assign (v := .string (B (([] : Str)))) rfl) ?_
  refine WL.nil ?_
  refine then_normal ?_
  refine WC.seq ?_
  refine WC.region ?_
  refine WL.val1 (R_move (v := .string (B (s))) rfl) ?_
  refine WL.val1 (R_slen (a := s) rfl Tryz.underlying9) ?_
  refine S_callP (vs := [.int .i64 ((((s).length : Nat) : Int))]) hS Tryz.call49 rfl (lib_Itoa ((((s).length : Nat) : Int)) (by first | assumption | omega) (by first | assumption | omega)) trivial ?_
  intro w2 hS1
  refine WL.val1 (R_sadd (a := (Lib.itoa ((((s).length : Nat) : Int)))) (b := ([58] : Str)) rfl rfl (by (try simp only [List.length_append, List.length_cons, List.length_nil]); omega)) ?_
  refine WL.val1 (R_move (v := .string (B (s))) rfl) ?_
  refine WL.val1 (R_sadd (a := ((Lib.itoa ((((s).length : Nat) : Int))) ++ ([58] : Str))) (b := s) rfl rfl (by (try simp only [List.length_append, List.length_cons, List.length_nil]); omega)) ?_
  refine WL.val1 (R_sadd (a := (((Lib.itoa ((((s).length : Nat) : Int))) ++ ([58] : Str)) ++ s)) (b := ([44] : Str)) rfl rfl (by (try simp only [List.length_append, List.length_cons, List.length_nil]); omega)) ?_
  refine WL.val1 (R_assign (v := .string (B (((((Lib.itoa ((((s).length : Nat) : Int))) ++ ([58] : Str)) ++ s) ++ ([44] : Str))))) rfl) ?_
  refine WL.nil ?_
  refine then_normal ?_
  refine WC.ret ?_
  refine top_ret (.string (B (((((Lib.itoa ((((s).length : Nat) : Int))) ++ ([58] : Str)) ++ s) ++ ([44] : Str))))) (gives1 rfl rfl) ?_
  exact ⟨(by rw [hi]; rfl), hS1⟩
set_option maxHeartbeats 400000 in
theorem ref02_Name (s : Str) (hs : s.length ≤ 9223372036854775807) : PureC GG Tryz.prog 50 (fun _ => True) [.string (B (s))] (.bool (nameS s)) := by
  intro Γ h L w hpre hS
  refine Ret.body Tryz.func50 rfl Tryz.ntmps50 (Nat.le_of_ble_eq_true rfl) ?_
  refine WC.seq ?_
  refine WC.region ?_
  refine WL.val1 (R_assign (v := .bool (false)) rfl) ?_
  refine WL.nil ?_
  refine then_normal ?_
  refine WC.seq ?_
  refine WC.seq ?_
  refine WC.region ?_
  refine WL.val1 (R_assign (v := .int .i64 (0)) rfl) ?_
  refine WL.nil ?_
  refine then_normal ?_
  refine WC.block ?_
  refine WC.loopL (σ := Nat)
    (fun (q_ : Nat) => (fun (i : Nat) => [(0, .string (B (s))), (3, .int .i64 (((i : Nat) : Int)))]) (q_))
    (fun (q_ : Nat) (w_ : World) => (fun (i : Nat) => ∃ h3 : Hp, h.le h3 ∧ St Γ h3 (L) w_ ∧ (i ≤ s.length) ∧ (nameF (s.drop i) = nameF s)) (q_))
    (fun (q_ : Nat) => (fun (i : Nat) => s.length - i) (q_)) (0) ?_ ?_ ?_
  · exact ⟨rfl, (by first | rfl | (apply congrArg (Value.int .i64); omega) | simp), trivial⟩
  · exact ⟨h, Hp.le_refl _, hS, (by first | assumption | omega | simp), (by rfl)⟩
  · rintro i r5 w2 ⟨h3, hl4, hS1, f1, f2⟩
    try dsimp only at f1 f2
    refine WC.seq ?_
    refine WC.seq ?_
    refine WC.region ?_
    refine WL.val1 (R_move (v := .int .i64 (((i : Nat) : Int))) rfl) ?_
    refine WL.val1 (R_move (v := .string (B (s))) rfl) ?_
    refine WL.val1 (R_slen (a := s) rfl Tryz.underlying9) ?_
    refine WL.val1 (R_lss (a := ((i : Nat) : Int)) (b := (((s).length : Nat) : Int)) rfl rfl) ?_
    refine WL.nil ?_
    refine then_normal ?_
    refine WC.condP (((i : Nat) : Int) < (((s).length : Nat) : Int)) rfl (fun c0 => ?_) (fun c0 => ?_)
    · skip
      refine WC.skip ?_
      refine then_normal ?_
      refine WC.seq ?_
      refine WC.block ?_
      refine WC.seq ?_
      refine WC.region ?_
      refine WL.val1 (R_move (v := .string (B (s))) rfl) ?_
      refine WL.val1 (R_move (v := .int .i64 (((i : Nat) : Int))) rfl) ?_
      refine WL.val1 (R_sindex (a := s) (i := ((i : Nat) : Int)) (n := i) rfl rfl Tryz.underlying9 (by first | rfl | (omega)) (by omega)) ?_
      have hb6 := at8_rng s i
      refine WL.val1 (R_assign (v := .int .u8 ((at8 s i))) rfl) ?_
      refine WL.nil ?_
      refine then_normal ?_
      refine WC.seq ?_
      refine WC.region ?_
      refine WL.val1 (R_move (v := .int .u8 ((at8 s i))) rfl) ?_
      refine WL.val1 (R_geq (a := (at8 s i)) (b := 97) rfl rfl) ?_
      refine WL.val1 (R_move (v := .bool (decide (97 ≤ (at8 s i)))) rfl) ?_
      refine WL.gpure (gd := decide (97 ≤ (at8 s i))) (yl_t (d := 16) rfl rfl) (fun hg => R_move (v := .int .u8 ((at8 s i))) rfl) ?_
      refine WL.gpure (gd := decide (97 ≤ (at8 s i))) (yl_t (d := 16) rfl rfl) (fun hg => R_leq (a := (at8 s i)) (b := 122) (gvT hg rfl) rfl) ?_
      refine WL.val1 (R_and (cb := decide (97 ≤ (at8 s i))) (yb := decide ((at8 s i) ≤ 122)) rfl rfl rfl) ?_
      refine WL.val1 (R_move (v := .bool ((decide (97 ≤ (at8 s i)) && decide ((at8 s i) ≤ 122)))) rfl) ?_
      refine WL.gpure (gd := (!((decide (97 ≤ (at8 s i)) && decide ((at8 s i) ≤ 122))))) (yl_f (d := 20) rfl rfl) (fun hg => R_move (v := .int .u8 ((at8 s i))) rfl) ?_
      refine WL.gpure (gd := (!((decide (97 ≤ (at8 s i)) && decide ((at8 s i) ≤ 122))))) (yl_f (d := 20) rfl rfl) (fun hg => R_geq (a := (at8 s i)) (b := 48) (gvT hg rfl) rfl) ?_
      refine WL.gpure (gd := (!((decide (97 ≤ (at8 s i)) && decide ((at8 s i) ≤ 122))))) (yl_f (d := 20) rfl rfl) (fun hg => R_move (v := .bool (decide (48 ≤ (at8 s i)))) (gvT hg rfl)) ?_
      refine WL.gpure (gd := (((!((decide (97 ≤ (at8 s i)) && decide ((at8 s i) ≤ 122))))) && (decide (48 ≤ (at8 s i))))) (ylg_t (d := 23) rfl rfl) (fun hg => R_move (v := .int .u8 ((at8 s i))) rfl) ?_
      refine WL.gpure (gd := (((!((decide (97 ≤ (at8 s i)) && decide ((at8 s i) ≤ 122))))) && (decide (48 ≤ (at8 s i))))) (ylg_t (d := 23) rfl rfl) (fun hg => R_leq (a := (at8 s i)) (b := 57) (gvT hg rfl) rfl) ?_
      refine WL.gpure (gd := (!((decide (97 ≤ (at8 s i)) && decide ((at8 s i) ≤ 122))))) (yl_f (d := 20) rfl rfl) (fun hg => R_and (cb := decide (48 ≤ (at8 s i))) (yb := decide ((at8 s i) ≤ 57)) (gvT hg rfl) (gvA hg rfl) rfl) ?_
      refine WL.val1 (R_or (cb := (decide (97 ≤ (at8 s i)) && decide ((at8 s i) ≤ 122))) (yb := (decide (48 ≤ (at8 s i)) && decide ((at8 s i) ≤ 57))) rfl rfl rfl) ?_
      refine WL.val1 (R_move (v := .bool (((decide (97 ≤ (at8 s i)) && decide ((at8 s i) ≤ 122)) || (decide (48 ≤ (at8 s i)) && decide ((at8 s i) ≤ 57))))) rfl) ?_
      refine WL.gpure (gd := (!(((decide (97 ≤ (at8 s i)) && decide ((at8 s i) ≤ 122)) || (decide (48 ≤ (at8 s i)) && decide ((at8 s i) ≤ 57)))))) (yl_f (d := 28) rfl rfl) (fun hg => R_move (v := .int .u8 ((at8 s i))) rfl) ?_
      refine WL.gpure (gd := (!(((decide (97 ≤ (at8 s i)) && decide ((at8 s i) ≤ 122)) || (decide (48 ≤ (at8 s i)) && decide ((at8 s i) ≤ 57)))))) (yl_f (d := 28) rfl rfl) (fun hg => R_eql (a := (at8 s i)) (b := 45) (gvT hg rfl) rfl) ?_
      refine WL.val1 (R_or (cb := ((decide (97 ≤ (at8 s i)) && decide ((at8 s i) ≤ 122)) || (decide (48 ≤ (at8 s i)) && decide ((at8 s i) ≤ 57)))) (yb := decide ((at8 s i) = 45)) rfl rfl rfl) ?_
      refine WL.val1 (R_move (v := .bool ((((decide (97 ≤ (at8 s i)) && decide ((at8 s i) ≤ 122)) || (decide (48 ≤ (at8 s i)) && decide ((at8 s i) ≤ 57))) || decide ((at8 s i) = 45)))) rfl) ?_
      refine WL.gpure (gd := (!((((decide (97 ≤ (at8 s i)) && decide ((at8 s i) ≤ 122)) || (decide (48 ≤ (at8 s i)) && decide ((at8 s i) ≤ 57))) || decide ((at8 s i) = 45))))) (yl_f (d := 32) rfl rfl) (fun hg => R_move (v := .int .u8 ((at8 s i))) rfl) ?_
      refine WL.gpure (gd := (!((((decide (97 ≤ (at8 s i)) && decide ((at8 s i) ≤ 122)) || (decide (48 ≤ (at8 s i)) && decide ((at8 s i) ≤ 57))) || decide ((at8 s i) = 45))))) (yl_f (d := 32) rfl rfl) (fun hg => R_eql (a := (at8 s i)) (b := 46) (gvT hg rfl) rfl) ?_
      refine WL.val1 (R_or (cb := (((decide (97 ≤ (at8 s i)) && decide ((at8 s i) ≤ 122)) || (decide (48 ≤ (at8 s i)) && decide ((at8 s i) ≤ 57))) || decide ((at8 s i) = 45))) (yb := decide ((at8 s i) = 46)) rfl rfl rfl) ?_
      refine WL.val1 (R_not (b := ((((decide (97 ≤ (at8 s i)) && decide ((at8 s i) ≤ 122)) || (decide (48 ≤ (at8 s i)) && decide ((at8 s i) ≤ 57))) || decide ((at8 s i) = 45)) || decide ((at8 s i) = 46))) rfl) ?_
      refine WL.nil ?_
      refine then_normal ?_
      refine WC.condI (¬ (((((97 ≤ (at8 s i) ∧ (at8 s i) ≤ 122) ∨ (48 ≤ (at8 s i) ∧ (at8 s i) ≤ 57)) ∨ (at8 s i) = 45) ∨ (at8 s i) = 46))) (b := (!(((((decide (97 ≤ (at8 s i)) && decide ((at8 s i) ≤ 122)) || (decide (48 ≤ (at8 s i)) && decide ((at8 s i) ≤ 57))) || decide ((at8 s i) = 45)) || decide ((at8 s i) = 46))))) rfl (b_not (b_or (b_or (b_or (b_and b_dec b_dec) (b_and b_dec b_dec)) b_dec) b_dec)) (fun c1 => ?_) (fun c1 => ?_)
      · skip
        refine WC.seq ?_
        refine WC.region ?_
        refine WL.val1 (R_assign (v := .bool (false)) rfl) ?_
        refine WL.nil ?_
        refine then_normal ?_
        refine WC.ret ?_
        refine block_ret ?_
        refine then_ret ?_
        refine then_ret ?_
        refine block_ret ?_
        refine then_ret ?_
        refine top_ret (.bool (false)) (gives1 rfl rfl) ?_
        exact ⟨(by rw [nameS, ← f2, nameF_step s i (by omega), show okB (at8 s i) = false by unfold okB; exact decide_eq_false (by omega)]; rfl), (hS1.weaken_h hl4)⟩
      · skip
        refine WC.skip ?_
        refine block_normal ?_
        refine then_normal ?_
        refine WC.region ?_
        refine WL.val1 (R_move (v := .int .i64 (((i : Nat) : Int))) rfl) ?_
        refine WL.val1 (R_add_i (a := ((i : Nat) : Int)) (b := 1) rfl rfl (by omega)) ?_
        refine WL.val1 (R_assign (v := .int .i64 ((((i : Nat) : Int) + 1))) rfl) ?_
        refine WL.nil ?_
        refine then_normal ?_
        exact ⟨(i + 1), ⟨rfl, (by first | rfl | (apply congrArg (Value.int .i64); omega) | simp), trivial⟩, ⟨h3, hl4, hS1, (by (try dsimp only); first | assumption | omega | simp), (by (try dsimp only); rw [← f2, nameF_step s i (by omega), show okB (at8 s i) = true by unfold okB; exact decide_eq_true (by omega)]; rfl)⟩, (by first | (simp only []; omega) | (simp; omega))⟩
    · skip
      refine WC.exit ?_
      refine then_exit ?_
      refine then_exit ?_
      refine block_exit ?_
      refine then_normal ?_
      refine WC.seq ?_
      refine WC.region ?_
      refine WL.val1 (R_move (v := .string (B (s))) rfl) ?_
      refine WL.val1 (R_slen (a := s) rfl Tryz.underlying9) ?_
      refine WL.val1 (R_geq (a := (((s).length : Nat) : Int)) (b := 1) rfl rfl) ?_
      refine WL.val1 (R_move (v := .bool (decide (1 ≤ (((s).length : Nat) : Int)))) rfl) ?_
      refine WL.gpure (gd := decide (1 ≤ (((s).length : Nat) : Int))) (yl_t (d := 40) rfl rfl) (fun hg => R_move (v := .string (B (s))) rfl) ?_
      refine WL.gpure (gd := decide (1 ≤ (((s).length : Nat) : Int))) (yl_t (d := 40) rfl rfl) (fun hg => R_slen (a := s) (gvT hg rfl) Tryz.underlying9) ?_
      refine WL.gpure (gd := decide (1 ≤ (((s).length : Nat) : Int))) (yl_t (d := 40) rfl rfl) (fun hg => R_leq (a := (((s).length : Nat) : Int)) (b := 24) (gvT hg rfl) rfl) ?_
      refine WL.val1 (R_and (cb := decide (1 ≤ (((s).length : Nat) : Int))) (yb := decide ((((s).length : Nat) : Int) ≤ 24)) rfl rfl rfl) ?_
      refine WL.val1 (R_assign (v := .bool ((decide (1 ≤ (((s).length : Nat) : Int)) && decide ((((s).length : Nat) : Int) ≤ 24)))) rfl) ?_
      refine WL.nil ?_
      refine then_normal ?_
      refine WC.ret ?_
      refine top_ret (.bool ((decide (1 ≤ (((s).length : Nat) : Int)) && decide ((((s).length : Nat) : Int) ≤ 24)))) (gives1 rfl rfl) ?_
      exact ⟨(by rw [nameS, ← f2, nameF_end s i (by omega)]; apply congrArg Value.bool; rw [Bool.eq_iff_iff]; simp <;> omega), (hS1.weaken_h hl4)⟩
set_option maxHeartbeats 400000 in
theorem ref02_Right (l : List File) (l_a : Option Addr) (l_c : Nat) (hl : l.length ≤ 1000000000) (hsz : ∀ x ∈ l, x.name.length ≤ 9223372036854775807 ∧ x.text.length ≤ 9223372036854775807) : PureC GG Tryz.prog 34 (fun h => Sl RFile h l l_a l_c) [.slice (l_a) (l).length (l_c)] (.bool (rightS l)) := by
  intro Γ h L w hpre hS
  have sl_l := hpre
  refine Ret.body Tryz.func34 rfl Tryz.ntmps34 (Nat.le_of_ble_eq_true rfl) ?_
  refine WC.seq ?_
  refine WC.region ?_
  refine WL.val1 (R_assign (v := .bool (false)) rfl) ?_
  refine WL.nil ?_
  refine then_normal ?_
  refine WC.seq ?_
  refine WC.seq ?_
  refine WC.region ?_
  refine WL.val1 (R_assign (v := .int .i64 (0)) rfl) ?_
  refine WL.nil ?_
  refine then_normal ?_
  refine WC.block ?_
  refine WC.loopL (σ := Nat)
    (fun (q_ : Nat) => (fun (i : Nat) => [(0, .slice (l_a) (l).length (l_c)), (3, .int .i64 (((i : Nat) : Int)))]) (q_))
    (fun (q_ : Nat) (w_ : World) => (fun (i : Nat) => ∃ h3 : Hp, h.le h3 ∧ St Γ h3 (L) w_ ∧ (i ≤ l.length) ∧ (rightF (prevN l i) (l.drop i) = rightF none l)) (q_))
    (fun (q_ : Nat) => (fun (i : Nat) => l.length - i) (q_)) (0) ?_ ?_ ?_
  · exact ⟨rfl, (by first | rfl | (apply congrArg (Value.int .i64); omega) | simp), trivial⟩
  · exact ⟨h, Hp.le_refl _, hS, (by first | assumption | omega | simp), (by rfl)⟩
  · rintro i r5 w2 ⟨h3, hl4, hS1, f1, f2⟩
    try dsimp only at f1 f2
    refine WC.seq ?_
    refine WC.seq ?_
    refine WC.region ?_
    refine WL.val1 (R_move (v := .int .i64 (((i : Nat) : Int))) rfl) ?_
    refine WL.val1 (R_move (v := .slice (l_a) (l).length (l_c)) rfl) ?_
    refine WL.val1 (R_len_slice (n := (l).length) rfl Tryz.underlying30) ?_
    refine WL.val1 (R_lss (a := ((i : Nat) : Int)) (b := (((l).length : Nat) : Int)) rfl rfl) ?_
    refine WL.nil ?_
    refine then_normal ?_
    refine WC.condP (((i : Nat) : Int) < (((l).length : Nat) : Int)) rfl (fun c0 => ?_) (fun c0 => ?_)
    · skip
      refine WC.skip ?_
      refine then_normal ?_
      refine WC.seq ?_
      refine WC.block ?_
      refine WC.seq ?_
      refine WC.seq ?_
      refine WC.region ?_
      refine WL.val1 (R_move (v := .slice (l_a) (l).length (l_c)) rfl) ?_
      refine WL.val1 (R_move (v := .int .i64 (((i : Nat) : Int))) rfl) ?_
      obtain ⟨z_l_i, hz_l_i⟩ : ∃ z, (l)[i]? = some z := ⟨_, List.getElem?_eq_getElem (by omega)⟩
      obtain ⟨b6, o7, cs11, ha8, hr9, hat10⟩ := (sl_l.mono hl4).2 i z_l_i hz_l_i
      subst hr9
      have hb_l_i := hsz z_l_i (List.mem_of_getElem? hz_l_i)
      refine WL.val1 (R_indexAddrE (i := ((i : Nat) : Int)) (m := i) ha8 rfl rfl Tryz.underlying30 (Tryz.sizeOf29 _) (by first | rfl | (omega)) (by omega)) ?_
      refine WL.val1 (R_fieldAddr (b := b6) (off := (o7 + i * RFile.n)) (m := 0) rfl (fun _ => by kernel_rfl)) ?_
      refine WL.val1 (R_loadC (v := .string (B (z_l_i.name))) hS1 rfl (hat10.sub 0 1 (cs' := [.string (B (z_l_i.name))]) rfl) Tryz.isAgg9 rfl) ?_
      refine S_callP (vs := [.string (B (z_l_i.name))]) hS1 Tryz.call50 rfl (ref02_Name (z_l_i.name) (by first | assumption | omega)) trivial ?_
      intro w13 hS12
      refine WL.val1 (R_not (b := nameS z_l_i.name) rfl) ?_
      refine WL.val1 (R_move (v := .bool ((!(nameS z_l_i.name)))) rfl) ?_
      refine WL.gpure (gd := (!((!(nameS z_l_i.name))))) (yl_f (d := 17) rfl rfl) (fun hg => R_move (v := .slice (l_a) (l).length (l_c)) rfl) ?_
      refine WL.gpure (gd := (!((!(nameS z_l_i.name))))) (yl_f (d := 17) rfl rfl) (fun hg => R_move (v := .int .i64 (((i : Nat) : Int))) rfl) ?_
      refine WL.gpure (gd := (!((!(nameS z_l_i.name))))) (yl_f (d := 17) rfl rfl) (fun hg => R_indexAddrE (i := ((i : Nat) : Int)) (m := i) ha8 (gvT hg rfl) (gvT hg rfl) Tryz.underlying30 (Tryz.sizeOf29 _) (by first | rfl | (have hg_ := ((b_not (b_not Iff.rfl))).1 hg; omega)) (by have hg_ := ((b_not (b_not Iff.rfl))).1 hg; omega)) ?_
      refine WL.gpure (gd := (!((!(nameS z_l_i.name))))) (yl_f (d := 17) rfl rfl) (fun hg => R_fieldAddr (b := b6) (off := (o7 + i * RFile.n)) (m := 1) (gvT hg rfl) (fun _ => by kernel_rfl)) ?_
      refine WL.gpure (gd := (!((!(nameS z_l_i.name))))) (yl_f (d := 17) rfl rfl) (fun hg => R_loadC (v := .string (B (z_l_i.text))) hS12 (gvT hg rfl) (hat10.sub 1 1 (cs' := [.string (B (z_l_i.text))]) rfl) Tryz.isAgg9 rfl) ?_
      refine WL.gpure (gd := (!((!(nameS z_l_i.name))))) (yl_f (d := 17) rfl rfl) (fun hg => R_slen (a := z_l_i.text) (gvT hg rfl) Tryz.underlying9) ?_
      refine WL.gpure (gd := (!((!(nameS z_l_i.name))))) (yl_f (d := 17) rfl rfl) (fun hg => R_gtr (a := (((z_l_i.text).length : Nat) : Int)) (b := 4000) (gvT hg rfl) rfl) ?_
      refine WL.val1 (R_or (cb := (!(nameS z_l_i.name))) (yb := decide (4000 < (((z_l_i.text).length : Nat) : Int))) rfl rfl rfl) ?_
      refine WL.nil ?_
      refine then_normal ?_
      refine WC.condI ((¬ ((nameS z_l_i.name) = true) ∨ 4000 < (((z_l_i.text).length : Nat) : Int))) (b := ((!(nameS z_l_i.name)) || decide (4000 < (((z_l_i.text).length : Nat) : Int)))) rfl (b_or (b_not Iff.rfl) b_dec) (fun c1 => ?_) (fun c1 => ?_)
      · skip
        refine WC.seq ?_
        refine WC.region ?_
        refine WL.val1 (R_assign (v := .bool (false)) rfl) ?_
        refine WL.nil ?_
        refine then_normal ?_
        refine WC.ret ?_
        refine then_ret ?_
        refine block_ret ?_
        refine then_ret ?_
        refine then_ret ?_
        refine block_ret ?_
        refine then_ret ?_
        refine top_ret (.bool (false)) (gives1 rfl rfl) ?_
        exact ⟨(by apply congrArg Value.bool; rw [rightS, ← f2, rightF_no1 _ hz_l_i (c1.imp (by simp) (by omega))]; rfl), (hS12.weaken_h hl4)⟩
      · skip
        refine WC.skip ?_
        refine then_normal ?_
        refine WC.seq ?_
        obtain ⟨z_l_i_1, hz_l_i_1⟩ : ∃ z, (l)[(i - 1)]? = some z := ⟨_, List.getElem?_eq_getElem (by omega)⟩
        obtain ⟨b42, o43, cs47, ha44, hr45, hat46⟩ := (sl_l.mono hl4).2 (i - 1) z_l_i_1 hz_l_i_1
        subst hr45
        have hb_l_i_1 := hsz z_l_i_1 (List.mem_of_getElem? hz_l_i_1)
        refine WC.draw 14 [(0, .slice (l_a) (l).length (l_c)), (3, .int .i64 (((i : Nat) : Int)))] [fun _ v => v = .int .i64 (((i : Nat) : Int)), fun _ v => v = .bool (decide (0 < ((i : Nat) : Int))), fun _ v => v = .bool (decide (0 < ((i : Nat) : Int))), fun _ v => v = gv (decide (0 < ((i : Nat) : Int))) (.slice (l_a) (l).length (l_c)), fun _ v => v = gv (decide (0 < ((i : Nat) : Int))) (.int .i64 (((i : Nat) : Int))), fun _ v => v = gv (decide (0 < ((i : Nat) : Int))) (.int .i64 ((((i : Nat) : Int) - 1))), fun _ v => v = gv (decide (0 < ((i : Nat) : Int))) (.pointer (some ⟨b42, (o43 + (i - 1) * RFile.n), none⟩)), fun _ v => v = gv (decide (0 < ((i : Nat) : Int))) (.pointer (some ⟨b42, (o43 + (i - 1) * RFile.n), none⟩)), fun _ v => v = gv (decide (0 < ((i : Nat) : Int))) (.string (B (z_l_i_1.name))), fun _ v => v = gv (decide (0 < ((i : Nat) : Int))) (.slice (l_a) (l).length (l_c)), fun _ v => v = gv (decide (0 < ((i : Nat) : Int))) (.int .i64 (((i : Nat) : Int))), fun _ v => v = gv (decide (0 < ((i : Nat) : Int))) (.pointer (some ⟨b6, (o7 + i * RFile.n), none⟩)), fun _ v => v = gv (decide (0 < ((i : Nat) : Int))) (.pointer (some ⟨b6, (o7 + i * RFile.n), none⟩)), fun _ v => v = gv (decide (0 < ((i : Nat) : Int))) (.string (B (z_l_i.name)))] hS12 (by kernel_rfl) (by kernel_rfl) (MonoFs.pure (MonoFs.pure (MonoFs.pure (MonoFs.pure (MonoFs.pure (MonoFs.pure (MonoFs.pure (MonoFs.pure (MonoFs.pure (MonoFs.pure (MonoFs.pure (MonoFs.pure (MonoFs.pure (MonoFs.pure MonoFs.nil)))))))))))))) ⟨rfl, rfl, trivial⟩ ⟨?_, ?_, ?_, ?_, ?_, ?_, ?_, ?_, ?_, ?_, ?_, ?_, ?_, ?_, trivial⟩ ?_
        · intro r_ w77 h78 hl79 hS76 hb_ hp_
          obtain ⟨b0_, b1_, _⟩ := hb_
          refine WL.val1 (R_move (v := .int .i64 (((i : Nat) : Int))) b1_) ?_
          refine WL.nil ?_
          exact ⟨rfl, _, _, rfl, (Hp.le_refl _), rfl, hS76⟩
        · intro r_ w81 h82 hl83 hS80 hb_ hp_
          obtain ⟨b0_, b1_, _⟩ := hb_
          obtain ⟨p0_, _⟩ := hp_
          have p0_ : r_ 26 = .int .i64 (((i : Nat) : Int)) := p0_
          refine WL.val1 (R_gtr (a := ((i : Nat) : Int)) (b := 0) p0_ rfl) ?_
          refine WL.nil ?_
          exact ⟨rfl, _, _, rfl, (Hp.le_refl _), rfl, hS80⟩
        · intro r_ w85 h86 hl87 hS84 hb_ hp_
          obtain ⟨b0_, b1_, _⟩ := hb_
          obtain ⟨p0_, _⟩ := hp_
          have p0_ : r_ 27 = .bool (decide (0 < ((i : Nat) : Int))) := p0_
          refine WL.val1 (R_move (v := .bool (decide (0 < ((i : Nat) : Int)))) p0_) ?_
          refine WL.nil ?_
          exact ⟨rfl, _, _, rfl, (Hp.le_refl _), rfl, hS84⟩
        · intro r_ w89 h90 hl91 hS88 hb_ hp_
          obtain ⟨b0_, b1_, _⟩ := hb_
          obtain ⟨p0_, _⟩ := hp_
          have p0_ : r_ 28 = .bool (decide (0 < ((i : Nat) : Int))) := p0_
          refine WL.gpure (gd := decide (0 < ((i : Nat) : Int))) (yl_t (d := 28) rfl p0_) (fun hg => R_move (v := .slice (l_a) (l).length (l_c)) b0_) ?_
          refine WL.nil ?_
          exact ⟨rfl, _, _, rfl, (Hp.le_refl _), rfl, hS88⟩
        · intro r_ w93 h94 hl95 hS92 hb_ hp_
          obtain ⟨b0_, b1_, _⟩ := hb_
          obtain ⟨p0_, _⟩ := hp_
          have p0_ : r_ 28 = .bool (decide (0 < ((i : Nat) : Int))) := p0_
          refine WL.gpure (gd := decide (0 < ((i : Nat) : Int))) (yl_t (d := 28) rfl p0_) (fun hg => R_move (v := .int .i64 (((i : Nat) : Int))) b1_) ?_
          refine WL.nil ?_
          exact ⟨rfl, _, _, rfl, (Hp.le_refl _), rfl, hS92⟩
        · intro r_ w97 h98 hl99 hS96 hb_ hp_
          obtain ⟨b0_, b1_, _⟩ := hb_
          obtain ⟨p0_, p1_, _⟩ := hp_
          have p0_ : r_ 30 = gv (decide (0 < ((i : Nat) : Int))) (.int .i64 (((i : Nat) : Int))) := p0_
          have p1_ : r_ 28 = .bool (decide (0 < ((i : Nat) : Int))) := p1_
          refine WL.gpure (gd := decide (0 < ((i : Nat) : Int))) (yl_t (d := 28) rfl p1_) (fun hg => R_sub_i (a := ((i : Nat) : Int)) (b := 1) (gvT hg p0_) rfl (by have hg_ := (b_dec).1 hg; omega)) ?_
          refine WL.nil ?_
          exact ⟨rfl, _, _, rfl, (Hp.le_refl _), rfl, hS96⟩
        · intro r_ w101 h102 hl103 hS100 hb_ hp_
          obtain ⟨b0_, b1_, _⟩ := hb_
          obtain ⟨p0_, p1_, p2_, _⟩ := hp_
          have p0_ : r_ 29 = gv (decide (0 < ((i : Nat) : Int))) (.slice (l_a) (l).length (l_c)) := p0_
          have p1_ : r_ 31 = gv (decide (0 < ((i : Nat) : Int))) (.int .i64 ((((i : Nat) : Int) - 1))) := p1_
          have p2_ : r_ 28 = .bool (decide (0 < ((i : Nat) : Int))) := p2_
          refine WL.gpure (gd := decide (0 < ((i : Nat) : Int))) (yl_t (d := 28) rfl p2_) (fun hg => R_indexAddrE (i := (((i : Nat) : Int) - 1)) (m := (i - 1)) ha44 (gvT hg p0_) (gvT hg p1_) Tryz.underlying30 (Tryz.sizeOf29 _) (by first | rfl | (have hg_ := (b_dec).1 hg; omega)) (by have hg_ := (b_dec).1 hg; omega)) ?_
          refine WL.nil ?_
          exact ⟨rfl, _, _, rfl, (Hp.le_refl _), rfl, hS100⟩
        · intro r_ w105 h106 hl107 hS104 hb_ hp_
          obtain ⟨b0_, b1_, _⟩ := hb_
          obtain ⟨p0_, p1_, _⟩ := hp_
          have p0_ : r_ 32 = gv (decide (0 < ((i : Nat) : Int))) (.pointer (some ⟨b42, (o43 + (i - 1) * RFile.n), none⟩)) := p0_
          have p1_ : r_ 28 = .bool (decide (0 < ((i : Nat) : Int))) := p1_
          refine WL.gpure (gd := decide (0 < ((i : Nat) : Int))) (yl_t (d := 28) rfl p1_) (fun hg => R_fieldAddr (b := b42) (off := (o43 + (i - 1) * RFile.n)) (m := 0) (gvT hg p0_) (fun _ => by kernel_rfl)) ?_
          refine WL.nil ?_
          exact ⟨rfl, _, _, rfl, (Hp.le_refl _), rfl, hS104⟩
        · intro r_ w109 h110 hl111 hS108 hb_ hp_
          obtain ⟨b0_, b1_, _⟩ := hb_
          obtain ⟨p0_, p1_, _⟩ := hp_
          have p0_ : r_ 33 = gv (decide (0 < ((i : Nat) : Int))) (.pointer (some ⟨b42, (o43 + (i - 1) * RFile.n), none⟩)) := p0_
          have p1_ : r_ 28 = .bool (decide (0 < ((i : Nat) : Int))) := p1_
          refine WL.gpure (gd := decide (0 < ((i : Nat) : Int))) (yl_t (d := 28) rfl p1_) (fun hg => R_loadC (v := .string (B (z_l_i_1.name))) hS108 (gvT hg p0_) ((hat46.mono hl111).sub 0 1 (cs' := [.string (B (z_l_i_1.name))]) rfl) Tryz.isAgg9 rfl) ?_
          refine WL.nil ?_
          exact ⟨rfl, _, _, rfl, (Hp.le_refl _), rfl, hS108⟩
        · intro r_ w113 h114 hl115 hS112 hb_ hp_
          obtain ⟨b0_, b1_, _⟩ := hb_
          obtain ⟨p0_, _⟩ := hp_
          have p0_ : r_ 28 = .bool (decide (0 < ((i : Nat) : Int))) := p0_
          refine WL.gpure (gd := decide (0 < ((i : Nat) : Int))) (yl_t (d := 28) rfl p0_) (fun hg => R_move (v := .slice (l_a) (l).length (l_c)) b0_) ?_
          refine WL.nil ?_
          exact ⟨rfl, _, _, rfl, (Hp.le_refl _), rfl, hS112⟩
        · intro r_ w117 h118 hl119 hS116 hb_ hp_
          obtain ⟨b0_, b1_, _⟩ := hb_
          obtain ⟨p0_, _⟩ := hp_
          have p0_ : r_ 28 = .bool (decide (0 < ((i : Nat) : Int))) := p0_
          refine WL.gpure (gd := decide (0 < ((i : Nat) : Int))) (yl_t (d := 28) rfl p0_) (fun hg => R_move (v := .int .i64 (((i : Nat) : Int))) b1_) ?_
          refine WL.nil ?_
          exact ⟨rfl, _, _, rfl, (Hp.le_refl _), rfl, hS116⟩
        · intro r_ w121 h122 hl123 hS120 hb_ hp_
          obtain ⟨b0_, b1_, _⟩ := hb_
          obtain ⟨p0_, p1_, p2_, _⟩ := hp_
          have p0_ : r_ 35 = gv (decide (0 < ((i : Nat) : Int))) (.slice (l_a) (l).length (l_c)) := p0_
          have p1_ : r_ 36 = gv (decide (0 < ((i : Nat) : Int))) (.int .i64 (((i : Nat) : Int))) := p1_
          have p2_ : r_ 28 = .bool (decide (0 < ((i : Nat) : Int))) := p2_
          refine WL.gpure (gd := decide (0 < ((i : Nat) : Int))) (yl_t (d := 28) rfl p2_) (fun hg => R_indexAddrE (i := ((i : Nat) : Int)) (m := i) ha8 (gvT hg p0_) (gvT hg p1_) Tryz.underlying30 (Tryz.sizeOf29 _) (by first | rfl | (have hg_ := (b_dec).1 hg; omega)) (by have hg_ := (b_dec).1 hg; omega)) ?_
          refine WL.nil ?_
          exact ⟨rfl, _, _, rfl, (Hp.le_refl _), rfl, hS120⟩
        · intro r_ w125 h126 hl127 hS124 hb_ hp_
          obtain ⟨b0_, b1_, _⟩ := hb_
          obtain ⟨p0_, p1_, _⟩ := hp_
          have p0_ : r_ 37 = gv (decide (0 < ((i : Nat) : Int))) (.pointer (some ⟨b6, (o7 + i * RFile.n), none⟩)) := p0_
          have p1_ : r_ 28 = .bool (decide (0 < ((i : Nat) : Int))) := p1_
          refine WL.gpure (gd := decide (0 < ((i : Nat) : Int))) (yl_t (d := 28) rfl p1_) (fun hg => R_fieldAddr (b := b6) (off := (o7 + i * RFile.n)) (m := 0) (gvT hg p0_) (fun _ => by kernel_rfl)) ?_
          refine WL.nil ?_
          exact ⟨rfl, _, _, rfl, (Hp.le_refl _), rfl, hS124⟩
        · intro r_ w129 h130 hl131 hS128 hb_ hp_
          obtain ⟨b0_, b1_, _⟩ := hb_
          obtain ⟨p0_, p1_, _⟩ := hp_
          have p0_ : r_ 38 = gv (decide (0 < ((i : Nat) : Int))) (.pointer (some ⟨b6, (o7 + i * RFile.n), none⟩)) := p0_
          have p1_ : r_ 28 = .bool (decide (0 < ((i : Nat) : Int))) := p1_
          refine WL.gpure (gd := decide (0 < ((i : Nat) : Int))) (yl_t (d := 28) rfl p1_) (fun hg => R_loadC (v := .string (B (z_l_i.name))) hS128 (gvT hg p0_) ((hat10.mono hl131).sub 0 1 (cs' := [.string (B (z_l_i.name))]) rfl) Tryz.isAgg9 rfl) ?_
          refine WL.nil ?_
          exact ⟨rfl, _, _, rfl, (Hp.le_refl _), rfl, hS128⟩
        · intro r_ w133 h134 hl135 hS132 hb_ hf_
          obtain ⟨b0_, b1_, _⟩ := hb_
          have q2_ := AF.get hf_ 2 (d := 28) rfl rfl
          have q8_ := AF.get hf_ 8 (d := 34) rfl rfl
          have q13_ := AF.get hf_ 13 (d := 39) rfl rfl
          refine WL.frame [(0, .slice (l_a) (l).length (l_c)), (3, .int .i64 (((i : Nat) : Int))), (28, .bool (decide (0 < ((i : Nat) : Int)))), (34, gv (decide (0 < ((i : Nat) : Int))) (.string (B (z_l_i_1.name)))), (39, gv (decide (0 < ((i : Nat) : Int))) (.string (B (z_l_i.name))))] ⟨b0_, b1_, q2_, q8_, q13_, trivial⟩ (fun r_ => ?_)
          refine WL.gpure (gd := decide (0 < ((i : Nat) : Int))) (yl_t (d := 28) rfl rfl) (fun hg => R_sgeq (a := z_l_i_1.name) (b := z_l_i.name) (gvT hg rfl) (gvT hg rfl)) ?_
          refine WL.val1 (R_and (cb := decide (0 < ((i : Nat) : Int))) (yb := (!(Op.bytesLess z_l_i_1.name z_l_i.name))) rfl rfl rfl) ?_
          refine WL.nil ?_
          refine then_normal ?_
          refine WC.condI ((0 < ((i : Nat) : Int) ∧ ¬ ((Op.bytesLess z_l_i_1.name z_l_i.name) = true))) (b := (decide (0 < ((i : Nat) : Int)) && (!(Op.bytesLess z_l_i_1.name z_l_i.name)))) rfl (b_and b_dec (b_not Iff.rfl)) (fun c2 => ?_) (fun c2 => ?_)
          · skip
            refine WC.seq ?_
            refine WC.region ?_
            refine WL.val1 (R_assign (v := .bool (false)) rfl) ?_
            refine WL.nil ?_
            refine then_normal ?_
            refine WC.ret ?_
            refine block_ret ?_
            refine then_ret ?_
            refine then_ret ?_
            refine block_ret ?_
            refine then_ret ?_
            refine top_ret (.bool (false)) (gives1 rfl rfl) ?_
            exact ⟨(by apply congrArg Value.bool; rw [rightS, ← f2, rightF_no2 hz_l_i (by omega) hz_l_i_1 (by simpa using c2.2)]; rfl), (hS132.weaken_h (hl4.trans hl135))⟩
          · skip
            refine WC.skip ?_
            refine block_normal ?_
            refine then_normal ?_
            refine WC.region ?_
            refine WL.val1 (R_move (v := .int .i64 (((i : Nat) : Int))) rfl) ?_
            refine WL.val1 (R_add_i (a := ((i : Nat) : Int)) (b := 1) rfl rfl (by omega)) ?_
            refine WL.val1 (R_assign (v := .int .i64 ((((i : Nat) : Int) + 1))) rfl) ?_
            refine WL.nil ?_
            refine then_normal ?_
            exact ⟨(i + 1), ⟨rfl, (by first | rfl | (apply congrArg (Value.int .i64); omega) | simp), trivial⟩, ⟨h134, (hl4.trans hl135), hS132, (by (try dsimp only); first | assumption | omega | simp), (by (try dsimp only); rw [← f2]; exact (rightF_yes hz_l_i (Decidable.byContradiction fun hh => c1 (.inl hh)) (by omega) (fun y h0 hy => by rw [hz_l_i_1] at hy; injection hy with hy; subst hy; exact Decidable.byContradiction fun hh => c2 ⟨by omega, hh⟩)).symm)⟩, (by first | (simp only []; omega) | (simp; omega))⟩
    · skip
      refine WC.exit ?_
      refine then_exit ?_
      refine then_exit ?_
      refine block_exit ?_
      refine then_normal ?_
      refine WC.seq ?_
      refine WC.region ?_
      refine WL.val1 (R_move (v := .slice (l_a) (l).length (l_c)) rfl) ?_
      refine WL.val1 (R_len_slice (n := (l).length) rfl Tryz.underlying30) ?_
      refine WL.val1 (R_leq (a := (((l).length : Nat) : Int)) (b := 32) rfl rfl) ?_
      refine WL.val1 (R_assign (v := .bool (decide ((((l).length : Nat) : Int) ≤ 32))) rfl) ?_
      refine WL.nil ?_
      refine then_normal ?_
      refine WC.ret ?_
      refine top_ret (.bool (decide ((((l).length : Nat) : Int) ≤ 32))) (gives1 rfl rfl) ?_
      exact ⟨(by apply congrArg Value.bool; rw [rightS, ← f2, rightF_end _ (by omega), Bool.true_and]; exact decide_eq_decide.2 (by omega)), (hS1.weaken_h hl4)⟩
set_option maxHeartbeats 400000 in
theorem wire_length (s : Str) (a : Int) (ha : 0 ≤ a ∧ a ≤ s.length) (hs : s.length ≤ 1000000000) : FnC GG Tryz.prog 79 (fun _ => True) [.string (B (s)), .int .i64 (a)] (fun h v => ∃ (b : Nat), v = .tuple #[.int .i64 ((lenS s a.toNat).1), .int .i64 ((lenS s a.toNat).2.1), errV 130 ((lenS s a.toNat).2.2) b] ∧ (ErrAt h (lenS s a.toNat).2.2 b)) := by
  intro Γ h L w hpre hS
  refine Ret.body Tryz.func79 rfl Tryz.ntmps79 (Nat.le_of_ble_eq_true rfl) ?_
  refine WC.seq ?_
  refine WC.region ?_
  refine WL.val1 (R_assign (v := .int .i64 (0)) rfl) ?_
  refine WL.val1 (R_assign (v := .int .i64 (0)) rfl) ?_
  refine WL.val1 (R_assign (v := .nilIface) rfl) ?_
  refine WL.nil ?_
  refine then_normal ?_
  refine WC.seq ?_
  refine WC.region ?_
  refine WL.val1 (R_assign (v := .int .i64 (0)) rfl) ?_
  refine WL.nil ?_
  refine then_normal ?_
  refine WC.seq ?_
  refine WC.seq ?_
  refine WC.region ?_
  refine WL.val1 (R_move (v := .int .i64 (a)) rfl) ?_
  refine WL.val1 (R_assign (v := .int .i64 (a)) rfl) ?_
  refine WL.nil ?_
  refine then_normal ?_
  refine WC.block ?_
  refine WC.loopL (σ := Nat × Int)
    (fun (q_ : Nat × Int) => (fun (i : Nat) (n : Int) => [(0, .string (B (s))), (1, .int .i64 (a)), (7, .int .i64 (n)), (8, .int .i64 (((i : Nat) : Int)))]) (q_.1) (q_.2))
    (fun (q_ : Nat × Int) (w_ : World) => (fun (i : Nat) (n : Int) => ∃ h3 : Hp, h.le h3 ∧ St Γ h3 (L) w_ ∧ (a ≤ i ∧ i ≤ s.length) ∧ (0 ≤ n ∧ n ≤ 999999) ∧ (lenF s a.toNat (s.length - i) i n = lenS s a.toNat) ∧ ((i = a → n = 0) ∧ (a < i → (n = 0 ↔ at8 s a.toNat = 48)))) (q_.1) (q_.2))
    (fun (q_ : Nat × Int) => (fun (i : Nat) (n : Int) => s.length - i) (q_.1) (q_.2)) (a.toNat, 0) ?_ ?_ ?_
  · exact ⟨rfl, rfl, (by first | rfl | (apply congrArg (Value.int .i64); omega) | simp), (by first | rfl | (apply congrArg (Value.int .i64); omega) | simp), trivial⟩
  · exact ⟨h, Hp.le_refl _, hS, (by simp; omega), (by first | assumption | omega | simp), (by rfl), (by simp; omega)⟩
  · rintro ⟨i, n⟩ r5 w2 ⟨h3, hl4, hS1, f1, f2, f3, f4⟩
    try dsimp only at f1 f2 f3 f4
    refine WC.seq ?_
    refine WC.seq ?_
    refine WC.region ?_
    refine WL.val1 (R_move (v := .int .i64 (((i : Nat) : Int))) rfl) ?_
    refine WL.val1 (R_move (v := .string (B (s))) rfl) ?_
    refine WL.val1 (R_slen (a := s) rfl Tryz.underlying9) ?_
    refine WL.val1 (R_lss (a := ((i : Nat) : Int)) (b := (((s).length : Nat) : Int)) rfl rfl) ?_
    refine WL.nil ?_
    refine then_normal ?_
    refine WC.condP (((i : Nat) : Int) < (((s).length : Nat) : Int)) rfl (fun c0 => ?_) (fun c0 => ?_)
    · skip
      refine WC.skip ?_
      refine then_normal ?_
      refine WC.seq ?_
      refine WC.block ?_
      refine WC.seq ?_
      refine WC.region ?_
      refine WL.val1 (R_move (v := .string (B (s))) rfl) ?_
      refine WL.val1 (R_move (v := .int .i64 (((i : Nat) : Int))) rfl) ?_
      refine WL.val1 (R_sindex (a := s) (i := ((i : Nat) : Int)) (n := i) rfl rfl Tryz.underlying9 (by first | rfl | (omega)) (by omega)) ?_
      have hb6 := at8_rng s i
      refine WL.val1 (R_assign (v := .int .u8 ((at8 s i))) rfl) ?_
      refine WL.nil ?_
      refine then_normal ?_
      refine WC.seq ?_
      refine WC.block ?_
      refine WC.seq ?_
      refine WC.region ?_
      refine WL.val1 (R_move (v := .int .u8 ((at8 s i))) rfl) ?_
      refine WL.val1 (R_eql (a := (at8 s i)) (b := 58) rfl rfl) ?_
      refine WL.val1 (R_move (v := .bool (decide ((at8 s i) = 58))) rfl) ?_
      refine WL.gpure (gd := decide ((at8 s i) = 58)) (yl_t (d := 23) rfl rfl) (fun hg => R_move (v := .int .i64 (((i : Nat) : Int))) rfl) ?_
      refine WL.gpure (gd := decide ((at8 s i) = 58)) (yl_t (d := 23) rfl rfl) (fun hg => R_move (v := .int .i64 (a)) rfl) ?_
      refine WL.gpure (gd := decide ((at8 s i) = 58)) (yl_t (d := 23) rfl rfl) (fun hg => R_gtr (a := ((i : Nat) : Int)) (b := a) (gvT hg rfl) (gvT hg rfl)) ?_
      refine WL.val1 (R_and (cb := decide ((at8 s i) = 58)) (yb := decide (a < ((i : Nat) : Int))) rfl rfl rfl) ?_
      refine WL.val1 (R_assign (v := .bool ((decide ((at8 s i) = 58) && decide (a < ((i : Nat) : Int))))) rfl) ?_
      refine WL.nil ?_
      refine then_normal ?_
      refine WC.condI (((at8 s i) = 58 ∧ a < ((i : Nat) : Int))) (b := (decide ((at8 s i) = 58) && decide (a < ((i : Nat) : Int)))) rfl (b_and b_dec b_dec) (fun c1 => ?_) (fun c1 => ?_)
      · skip
        refine WC.seq ?_
        refine WC.region ?_
        refine WL.val1 (R_move (v := .int .i64 (n)) rfl) ?_
        refine WL.val1 (R_move (v := .int .i64 (((i : Nat) : Int))) rfl) ?_
        refine WL.val1 (R_add_i (a := ((i : Nat) : Int)) (b := 1) rfl rfl (by omega)) ?_
        refine WL.val1 (R_assign (v := .int .i64 (n)) rfl) ?_
        refine WL.val1 (R_assign (v := .int .i64 ((((i : Nat) : Int) + 1))) rfl) ?_
        refine WL.val1 (R_assign (v := .nilIface) rfl) ?_
        refine WL.nil ?_
        refine then_normal ?_
        refine WC.ret ?_
        refine block_ret ?_
        refine then_ret ?_
        refine block_ret ?_
        refine then_ret ?_
        refine then_ret ?_
        refine block_ret ?_
        refine then_ret ?_
        refine top_ret (.tuple #[.int .i64 (n), .int .i64 ((((i : Nat) : Int) + 1)), .nilIface]) (gives3 rfl rfl rfl rfl) ?_
        have e_ := f3.symm.trans (lenF_step s a.toNat i n (by omega)); rw [if_pos (by omega)] at e_
        exact ⟨h3, hl4, ⟨0, (by first | rfl | (rw [e_]; done) | (rw [e_]; rfl) | (simp; done)), (by first | exact ErrAt.zero _ _ | (rw [e_]; exact ErrAt.zero _ _))⟩, hS1⟩
      · skip
        refine WC.seq ?_
        refine WC.region ?_
        refine WL.val1 (R_move (v := .int .u8 ((at8 s i))) rfl) ?_
        refine WL.val1 (R_lss (a := (at8 s i)) (b := 48) rfl rfl) ?_
        refine WL.val1 (R_move (v := .bool (decide ((at8 s i) < 48))) rfl) ?_
        refine WL.gpure (gd := (!(decide ((at8 s i) < 48)))) (yl_f (d := 34) rfl rfl) (fun hg => R_move (v := .int .u8 ((at8 s i))) rfl) ?_
        refine WL.gpure (gd := (!(decide ((at8 s i) < 48)))) (yl_f (d := 34) rfl rfl) (fun hg => R_gtr (a := (at8 s i)) (b := 57) (gvT hg rfl) rfl) ?_
        refine WL.val1 (R_or (cb := decide ((at8 s i) < 48)) (yb := decide (57 < (at8 s i))) rfl rfl rfl) ?_
        refine WL.val1 (R_move (v := .bool ((decide ((at8 s i) < 48) || decide (57 < (at8 s i))))) rfl) ?_
        refine WL.gpure (gd := (!((decide ((at8 s i) < 48) || decide (57 < (at8 s i)))))) (yl_f (d := 38) rfl rfl) (fun hg => R_move (v := .int .i64 (((i : Nat) : Int))) rfl) ?_
        refine WL.gpure (gd := (!((decide ((at8 s i) < 48) || decide (57 < (at8 s i)))))) (yl_f (d := 38) rfl rfl) (fun hg => R_move (v := .int .i64 (a)) rfl) ?_
        refine WL.gpure (gd := (!((decide ((at8 s i) < 48) || decide (57 < (at8 s i)))))) (yl_f (d := 38) rfl rfl) (fun hg => R_gtr (a := ((i : Nat) : Int)) (b := a) (gvT hg rfl) (gvT hg rfl)) ?_
        refine WL.gpure (gd := (!((decide ((at8 s i) < 48) || decide (57 < (at8 s i)))))) (yl_f (d := 38) rfl rfl) (fun hg => R_move (v := .bool (decide (a < ((i : Nat) : Int)))) (gvT hg rfl)) ?_
        refine WL.gpure (gd := (((!((decide ((at8 s i) < 48) || decide (57 < (at8 s i)))))) && (decide (a < ((i : Nat) : Int))))) (ylg_t (d := 42) rfl rfl) (fun hg => R_move (v := .int .i64 (n)) rfl) ?_
        refine WL.gpure (gd := (((!((decide ((at8 s i) < 48) || decide (57 < (at8 s i)))))) && (decide (a < ((i : Nat) : Int))))) (ylg_t (d := 42) rfl rfl) (fun hg => R_eql (a := n) (b := 0) (gvT hg rfl) rfl) ?_
        refine WL.gpure (gd := (!((decide ((at8 s i) < 48) || decide (57 < (at8 s i)))))) (yl_f (d := 38) rfl rfl) (fun hg => R_and (cb := decide (a < ((i : Nat) : Int))) (yb := decide (n = 0)) (gvT hg rfl) (gvA hg rfl) rfl) ?_
        refine WL.val1 (R_or (cb := (decide ((at8 s i) < 48) || decide (57 < (at8 s i)))) (yb := (decide (a < ((i : Nat) : Int)) && decide (n = 0))) rfl rfl rfl) ?_
        refine WL.val1 (R_assign (v := .bool (((decide ((at8 s i) < 48) || decide (57 < (at8 s i))) || (decide (a < ((i : Nat) : Int)) && decide (n = 0))))) rfl) ?_
        refine WL.nil ?_
        refine then_normal ?_
        refine WC.condI ((((at8 s i) < 48 ∨ 57 < (at8 s i)) ∨ (a < ((i : Nat) : Int) ∧ n = 0))) (b := ((decide ((at8 s i) < 48) || decide (57 < (at8 s i))) || (decide (a < ((i : Nat) : Int)) && decide (n = 0)))) rfl (b_or (b_or b_dec b_dec) (b_and b_dec b_dec)) (fun c2 => ?_) (fun c2 => ?_)
        · skip
          refine WC.seq ?_
          refine WC.region ?_
          refine WL.val1 (R_move (v := .int .i64 (((i : Nat) : Int))) rfl) ?_
          refine WL.val1 (R_build (vs := [(0, .int .i64 (((i : Nat) : Int))), (1, .int .i64 (5))]) (v := .agg #[.int .i64 (((i : Nat) : Int)), .int .i64 (5)]) rfl (fun _ => by kernel_rfl)) ?_
          refine S_box (l := [.int .i64 (((i : Nat) : Int)), .int .i64 (5)]) (v := .agg #[.int .i64 (((i : Nat) : Int)), .int .i64 (5)]) hS1 rfl rfl ?_
          intro w8 hS7
          obtain ⟨h9, hl10, hat11, hS12⟩ := hS7.commitRow (i := 0) rfl
          refine WL.val1 (R_makeInterface (v := .pointer (some ⟨w2.heap.size, 0, none⟩)) rfl (fun _ => by kernel_rfl)) ?_
          refine WL.val1 (R_assign (v := .int .i64 (0)) rfl) ?_
          refine WL.val1 (R_assign (v := .int .i64 (0)) rfl) ?_
          refine WL.val1 (R_assign (v := .iface 130 (.pointer (some ⟨w2.heap.size, 0, none⟩))) rfl) ?_
          refine WL.nil ?_
          refine then_normal ?_
          refine WC.ret ?_
          refine block_ret ?_
          refine then_ret ?_
          refine block_ret ?_
          refine then_ret ?_
          refine then_ret ?_
          refine block_ret ?_
          refine then_ret ?_
          refine top_ret (.tuple #[.int .i64 (0), .int .i64 (0), .iface 130 (.pointer (some ⟨w2.heap.size, 0, none⟩))]) (gives3 rfl rfl rfl rfl) ?_
          have e_ := f3.symm.trans (lenF_step s a.toNat i n (by omega)); rw [if_neg (by omega), if_pos (by omega)] at e_
          exact ⟨h9, (hl4.trans hl10), ⟨w2.heap.size, (by first | rfl | (rw [e_]; done) | (rw [e_]; rfl) | (simp; done)), (by first | exact ErrAt.of hat11 | (rw [e_]; exact ErrAt.of hat11))⟩, hS12.pop⟩
        · skip
          refine WC.skip ?_
          refine block_normal ?_
          refine then_normal ?_
          refine WC.seq ?_
          refine WC.region ?_
          refine WL.val1 (R_move (v := .int .i64 (n)) rfl) ?_
          refine WL.val1 (R_mul_i (a := n) (b := 10) rfl rfl (by omega)) ?_
          refine WL.val1 (R_move (v := .int .u8 ((at8 s i))) rfl) ?_
          refine WL.val1 (R_sub_u8 (a := (at8 s i)) (b := 48) rfl rfl (by omega)) ?_
          refine WL.val1 (R_conv_i (a := ((at8 s i) - 48)) rfl Tryz.underlying5 Tryz.underlying3 (by omega)) ?_
          refine WL.val1 (R_add_i (a := (n * 10)) (b := ((at8 s i) - 48)) rfl rfl (by omega)) ?_
          refine WL.val1 (R_assign (v := .int .i64 (((n * 10) + ((at8 s i) - 48)))) rfl) ?_
          refine WL.nil ?_
          refine then_normal ?_
          refine WC.seq ?_
          refine WC.region ?_
          refine WL.val1 (R_move (v := .int .i64 (((n * 10) + ((at8 s i) - 48)))) rfl) ?_
          refine WL.val1 (R_gtr (a := ((n * 10) + ((at8 s i) - 48))) (b := 999999) rfl rfl) ?_
          refine WL.nil ?_
          refine then_normal ?_
          refine WC.condP (999999 < ((n * 10) + ((at8 s i) - 48))) rfl (fun c3 => ?_) (fun c3 => ?_)
          · skip
            refine WC.seq ?_
            refine WC.region ?_
            refine WL.val1 (R_move (v := .int .i64 (((i : Nat) : Int))) rfl) ?_
            refine WL.val1 (R_build (vs := [(0, .int .i64 (((i : Nat) : Int))), (1, .int .i64 (3))]) (v := .agg #[.int .i64 (((i : Nat) : Int)), .int .i64 (3)]) rfl (fun _ => by kernel_rfl)) ?_
            refine S_box (l := [.int .i64 (((i : Nat) : Int)), .int .i64 (3)]) (v := .agg #[.int .i64 (((i : Nat) : Int)), .int .i64 (3)]) hS1 rfl rfl ?_
            intro w14 hS13
            obtain ⟨h15, hl16, hat17, hS18⟩ := hS13.commitRow (i := 0) rfl
            refine WL.val1 (R_makeInterface (v := .pointer (some ⟨w2.heap.size, 0, none⟩)) rfl (fun _ => by kernel_rfl)) ?_
            refine WL.val1 (R_assign (v := .int .i64 (0)) rfl) ?_
            refine WL.val1 (R_assign (v := .int .i64 (0)) rfl) ?_
            refine WL.val1 (R_assign (v := .iface 130 (.pointer (some ⟨w2.heap.size, 0, none⟩))) rfl) ?_
            refine WL.nil ?_
            refine then_normal ?_
            refine WC.ret ?_
            refine block_ret ?_
            refine then_ret ?_
            refine then_ret ?_
            refine block_ret ?_
            refine then_ret ?_
            refine top_ret (.tuple #[.int .i64 (0), .int .i64 (0), .iface 130 (.pointer (some ⟨w2.heap.size, 0, none⟩))]) (gives3 rfl rfl rfl rfl) ?_
            have e_ := f3.symm.trans (lenF_step s a.toNat i n (by omega)); rw [if_neg (by omega), if_neg (by omega), if_pos (by omega)] at e_
            exact ⟨h15, (hl4.trans hl16), ⟨w2.heap.size, (by first | rfl | (rw [e_]; done) | (rw [e_]; rfl) | (simp; done)), (by first | exact ErrAt.of hat17 | (rw [e_]; exact ErrAt.of hat17))⟩, hS18.pop⟩
          · skip
            refine WC.skip ?_
            refine block_normal ?_
            refine then_normal ?_
            refine WC.region ?_
            refine WL.val1 (R_move (v := .int .i64 (((i : Nat) : Int))) rfl) ?_
            refine WL.val1 (R_add_i (a := ((i : Nat) : Int)) (b := 1) rfl rfl (by omega)) ?_
            refine WL.val1 (R_assign (v := .int .i64 ((((i : Nat) : Int) + 1))) rfl) ?_
            refine WL.nil ?_
            refine then_normal ?_
            exact ⟨(i + 1, ((n * 10) + ((at8 s i) - 48))), ⟨rfl, rfl, (by first | rfl | (apply congrArg (Value.int .i64); omega) | simp), (by first | rfl | (apply congrArg (Value.int .i64); omega) | simp), trivial⟩, ⟨h3, hl4, hS1, (by (try dsimp only); first | assumption | omega | simp), (by (try dsimp only); first | assumption | omega | simp), (by (try dsimp only); rw [← f3, lenF_step s a.toNat i n (by omega), if_neg (by omega), if_neg (by omega), if_neg (by omega)]; exact congrArg _ (by omega)), (by (try dsimp only); refine ⟨fun h => by omega, fun _ => ?_⟩; exact (Nat.lt_or_ge a.toNat i).elim (fun hh => by omega) (fun hh => by rw [show a.toNat = i by omega]; omega))⟩, (by first | (simp only []; omega) | (simp; omega))⟩
    · skip
      refine WC.exit ?_
      refine then_exit ?_
      refine then_exit ?_
      refine block_exit ?_
      refine then_normal ?_
      refine WC.seq ?_
      refine WC.region ?_
      refine WL.val1 (R_move (v := .string (B (s))) rfl) ?_
      refine WL.val1 (R_slen (a := s) rfl Tryz.underlying9) ?_
      refine WL.val1 (R_build (vs := [(0, .int .i64 ((((s).length : Nat) : Int))), (1, .int .i64 (6))]) (v := .agg #[.int .i64 ((((s).length : Nat) : Int)), .int .i64 (6)]) rfl (fun _ => by kernel_rfl)) ?_
      refine S_box (l := [.int .i64 ((((s).length : Nat) : Int)), .int .i64 (6)]) (v := .agg #[.int .i64 ((((s).length : Nat) : Int)), .int .i64 (6)]) hS1 rfl rfl ?_
      intro w20 hS19
      obtain ⟨h21, hl22, hat23, hS24⟩ := hS19.commitRow (i := 0) rfl
      refine WL.val1 (R_makeInterface (v := .pointer (some ⟨w2.heap.size, 0, none⟩)) rfl (fun _ => by kernel_rfl)) ?_
      refine WL.val1 (R_assign (v := .int .i64 (0)) rfl) ?_
      refine WL.val1 (R_assign (v := .int .i64 (0)) rfl) ?_
      refine WL.val1 (R_assign (v := .iface 130 (.pointer (some ⟨w2.heap.size, 0, none⟩))) rfl) ?_
      refine WL.nil ?_
      refine then_normal ?_
      refine WC.ret ?_
      refine top_ret (.tuple #[.int .i64 (0), .int .i64 (0), .iface 130 (.pointer (some ⟨w2.heap.size, 0, none⟩))]) (gives3 rfl rfl rfl rfl) ?_
      have e_ := f3.symm; rw [show s.length - i = 0 by omega] at e_; unfold lenF at e_
      exact ⟨h21, (hl4.trans hl22), ⟨w2.heap.size, (by first | rfl | (rw [e_]; done) | (rw [e_]; rfl) | (simp; done)), (by first | exact ErrAt.of hat23 | (rw [e_]; exact ErrAt.of hat23))⟩, hS24.pop⟩
set_option maxHeartbeats 400000 in
theorem wire_number (e : Int) (e_b : Nat) (hne : e ≠ 0) : PureC GG Tryz.prog 68 (fun h => ErrAt h e e_b) [errV 130 (e) e_b] (.int .i64 (e)) := by
  intro Γ h L w hpre hS
  have sl_e := hpre
  have he : errV 130 e e_b = .iface 130 (.pointer (some ⟨e_b, 0, none⟩)) := if_neg hne
  refine Ret.body Tryz.func68 rfl Tryz.ntmps68 (Nat.le_of_ble_eq_true rfl) ?_
  refine WC.seq ?_
  refine WC.region ?_
  refine WL.val1 (R_assign (v := .int .i64 (0)) rfl) ?_
  refine WL.nil ?_
  refine then_normal ?_
  refine WC.seq ?_
  refine WC.region ?_
  refine S_alloc hS Tryz.zeroValue31 ?_
  intro w2 hS1
  refine WL.nil ?_
  refine then_normal ?_
  refine WC.seq ?_
  refine WC.seq ?_
  refine WC.region ?_
  refine WL.val1 (R_move (v := errV 130 (e) e_b) rfl) ?_
  refine WL.val1 (R_makeInterface (v := .pointer (some ⟨w.heap.size, 0, none⟩)) rfl (fun _ => by kernel_rfl)) ?_
  refine S_callM (vs := [.iface 130 (.pointer (some ⟨e_b, 0, none⟩)), .iface 136 (.pointer (some ⟨w.heap.size, 0, none⟩))]) 0 hS1 rfl Tryz.call80 (hmap2 he rfl) (as_M e_b 0 e (w.heap.size) (.int .i64 (0))) ⟨sl_e hne, rfl⟩ ?_
  intro h3 A4 v5 w6 hl7 hp8 hS9
  obtain ⟨rfl, rfl⟩ := hp8
  refine WL.nil ?_
  refine then_normal ?_
  refine WC.condT rfl ?_
  refine WC.seq ?_
  refine WC.region ?_
  refine WL.val1 (R_load (v := .int .i64 (e)) rfl (hS9.has (i := 0) rfl) (Tryz.isAgg31 _) rfl) ?_
  refine WL.val1 (R_assign (v := .int .i64 (e)) rfl) ?_
  refine WL.nil ?_
  refine then_normal ?_
  refine WC.ret ?_
  refine then_ret ?_
  refine top_ret (.int .i64 (e)) (gives1 rfl rfl) ?_
  exact ⟨(by rfl), (hS9.pop.weaken_h hl7)⟩
set_option maxHeartbeats 400000 in
theorem wire_get (s : Str) (at_ : Int) (top : Int) (hs : s.length ≤ 1000000000) : FnC GG Tryz.prog 67 (fun _ => True) [.string (B (s)), .int .i64 (at_), .int .i64 (top)] (fun h v => ∃ (b : Nat), v = .tuple #[.string (B ((getS s at_ top).1)), .int .i64 ((getS s at_ top).2.1), errV 130 ((getS s at_ top).2.2) b] ∧ (ErrAt h (getS s at_ top).2.2 b)) := by
  intro Γ h L w hpre hS
  refine Ret.body Tryz.func67 rfl Tryz.ntmps67 (Nat.le_of_ble_eq_true rfl) ?_
  refine WC.seq ?_
  refine WC.region ?_
  refine WL.val1 (R_assign (v := .string (B (([] : Str)))) rfl) ?_
  refine WL.val1 (R_assign (v := .int .i64 (0)) rfl) ?_
  refine WL.val1 (R_assign (v := .nilIface) rfl) ?_
  refine WL.nil ?_
  refine then_normal ?_
  refine WC.seq ?_
  refine WC.seq ?_
  refine WC.region ?_
  refine WL.val1 (R_move (v := .int .i64 (at_)) rfl) ?_
  refine WL.val1 (R_lss (a := at_) (b := 0) rfl rfl) ?_
  refine WL.val1 (R_move (v := .bool (decide (at_ < 0))) rfl) ?_
  refine WL.gpure (gd := (!(decide (at_ < 0)))) (yl_f (d := 15) rfl rfl) (fun hg => R_move (v := .int .i64 (at_)) rfl) ?_
  refine WL.gpure (gd := (!(decide (at_ < 0)))) (yl_f (d := 15) rfl rfl) (fun hg => R_move (v := .string (B (s))) rfl) ?_
  refine WL.gpure (gd := (!(decide (at_ < 0)))) (yl_f (d := 15) rfl rfl) (fun hg => R_slen (a := s) (gvT hg rfl) Tryz.underlying9) ?_
  refine WL.gpure (gd := (!(decide (at_ < 0)))) (yl_f (d := 15) rfl rfl) (fun hg => R_gtr (a := at_) (b := (((s).length : Nat) : Int)) (gvT hg rfl) (gvT hg rfl)) ?_
  refine WL.val1 (R_or (cb := decide (at_ < 0)) (yb := decide ((((s).length : Nat) : Int) < at_)) rfl rfl rfl) ?_
  refine WL.nil ?_
  refine then_normal ?_
  refine WC.condI ((at_ < 0 ∨ (((s).length : Nat) : Int) < at_)) (b := (decide (at_ < 0) || decide ((((s).length : Nat) : Int) < at_))) rfl (b_or b_dec b_dec) (fun c0 => ?_) (fun c0 => ?_)
  · skip
    refine WC.seq ?_
    refine WC.region ?_
    refine WL.val1 (R_move (v := .int .i64 (at_)) rfl) ?_
    refine WL.val1 (R_build (vs := [(0, .int .i64 (at_)), (1, .int .i64 (1))]) (v := .agg #[.int .i64 (at_), .int .i64 (1)]) rfl (fun _ => by kernel_rfl)) ?_
    refine S_box (l := [.int .i64 (at_), .int .i64 (1)]) (v := .agg #[.int .i64 (at_), .int .i64 (1)]) hS rfl rfl ?_
    intro w2 hS1
    obtain ⟨h3, hl4, hat5, hS6⟩ := hS1.commitRow (i := 0) rfl
    refine WL.val1 (R_makeInterface (v := .pointer (some ⟨w.heap.size, 0, none⟩)) rfl (fun _ => by kernel_rfl)) ?_
    refine WL.val1 (R_assign (v := .string (B (([] : Str)))) rfl) ?_
    refine WL.val1 (R_assign (v := .int .i64 (0)) rfl) ?_
    refine WL.val1 (R_assign (v := .iface 130 (.pointer (some ⟨w.heap.size, 0, none⟩))) rfl) ?_
    refine WL.nil ?_
    refine then_normal ?_
    refine WC.ret ?_
    refine then_ret ?_
    refine top_ret (.tuple #[.string (B (([] : Str))), .int .i64 (0), .iface 130 (.pointer (some ⟨w.heap.size, 0, none⟩))]) (gives3 rfl rfl rfl rfl) ?_
    have e_ := show getS s at_ top = _ from by unfold getS; rw [if_pos (by omega)]
    exact ⟨h3, hl4, ⟨w.heap.size, (by first | rfl | (rw [e_]; done) | (rw [e_]; rfl) | (simp; done)), (by first | exact ErrAt.of hat5 | (rw [e_]; exact ErrAt.of hat5))⟩, hS6.pop⟩
  · skip
    have hb := lenS_bd s at_.toNat (by omega)
    refine WC.skip ?_
    refine then_normal ?_
    refine WC.seq ?_
    refine WC.region ?_
    refine WL.val1 (R_move (v := .string (B (s))) rfl) ?_
    refine WL.val1 (R_move (v := .int .i64 (at_)) rfl) ?_
    refine S_callF (vs := [.string (B (s)), .int .i64 (at_)]) hS Tryz.call79 rfl (wire_length (s) (at_) (by first | assumption | omega) (by first | assumption | omega)) trivial ?_
    intro h9 v11 w8 hl10 hp12 hS7
    obtain ⟨b13, rfl, hf14⟩ := hp12
    refine WL.val1 (R_move (v := .tuple #[.int .i64 ((lenS s at_.toNat).1), .int .i64 ((lenS s at_.toNat).2.1), errV 130 ((lenS s at_.toNat).2.2) b13]) rfl) ?_
    refine WL.val1 (R_extract (vs := ([.int .i64 ((lenS s at_.toNat).1), .int .i64 ((lenS s at_.toNat).2.1), errV 130 ((lenS s at_.toNat).2.2) b13] : List Value).toArray) (v := .int .i64 ((lenS s at_.toNat).1)) rfl rfl) ?_
    refine WL.val1 (R_extract (vs := ([.int .i64 ((lenS s at_.toNat).1), .int .i64 ((lenS s at_.toNat).2.1), errV 130 ((lenS s at_.toNat).2.2) b13] : List Value).toArray) (v := .int .i64 ((lenS s at_.toNat).2.1)) rfl rfl) ?_
    refine WL.val1 (R_extract (vs := ([.int .i64 ((lenS s at_.toNat).1), .int .i64 ((lenS s at_.toNat).2.1), errV 130 ((lenS s at_.toNat).2.2) b13] : List Value).toArray) (v := errV 130 ((lenS s at_.toNat).2.2) b13) rfl rfl) ?_
    refine WL.val1 (R_assign (v := .int .i64 ((lenS s at_.toNat).1)) rfl) ?_
    refine WL.val1 (R_assign (v := .int .i64 ((lenS s at_.toNat).2.1)) rfl) ?_
    refine WL.val1 (R_assign (v := errV 130 ((lenS s at_.toNat).2.2) b13) rfl) ?_
    refine WL.nil ?_
    refine then_normal ?_
    refine WC.seq ?_
    refine WC.seq ?_
    refine WC.region ?_
    refine WL.val1 (R_move (v := errV 130 ((lenS s at_.toNat).2.2) b13) rfl) ?_
    refine WL.val1 (R_errNeq (e := (lenS s at_.toNat).2.2) (b := b13) (u := 130) rfl rfl (by kernel_rfl)) ?_
    refine WL.nil ?_
    refine then_normal ?_
    refine WC.condP ((lenS s at_.toNat).2.2 ≠ 0) rfl (fun c1 => ?_) (fun c1 => ?_)
    · skip
      refine WC.seq ?_
      refine WC.region ?_
      refine WL.val1 (R_move (v := errV 130 ((lenS s at_.toNat).2.2) b13) rfl) ?_
      refine WL.val1 (R_assign (v := .string (B (([] : Str)))) rfl) ?_
      refine WL.val1 (R_assign (v := .int .i64 (0)) rfl) ?_
      refine WL.val1 (R_assign (v := errV 130 ((lenS s at_.toNat).2.2) b13) rfl) ?_
      refine WL.nil ?_
      refine then_normal ?_
      refine WC.ret ?_
      refine then_ret ?_
      refine top_ret (.tuple #[.string (B (([] : Str))), .int .i64 (0), errV 130 ((lenS s at_.toNat).2.2) b13]) (gives3 rfl rfl rfl rfl) ?_
      have e_ := show getS s at_ top = _ from by unfold getS; rw [if_neg (by omega), if_pos (by omega)]
      exact ⟨h9, hl10, ⟨b13, (by first | rfl | (rw [e_]; done) | (rw [e_]; rfl) | (simp; done)), (by first | exact hf14 | (rw [e_]; exact hf14))⟩, hS7⟩
    · skip
      have hb5 := hb.2.2.2.2.1 (by omega)
      refine WC.skip ?_
      refine then_normal ?_
      refine WC.seq ?_
      refine WC.region ?_
      refine WL.val1 (R_move (v := .int .i64 ((lenS s at_.toNat).2.1)) rfl) ?_
      refine WL.val1 (R_move (v := .int .i64 ((lenS s at_.toNat).1)) rfl) ?_
      refine WL.val1 (R_add_i (a := (lenS s at_.toNat).2.1) (b := (lenS s at_.toNat).1) rfl rfl (by omega)) ?_
      refine WL.val1 (R_assign (v := .int .i64 (((lenS s at_.toNat).2.1 + (lenS s at_.toNat).1))) rfl) ?_
      refine WL.nil ?_
      refine then_normal ?_
      refine WC.seq ?_
      refine WC.block ?_
      refine WC.seq ?_
      refine WC.region ?_
      refine WL.val1 (R_move (v := .int .i64 ((lenS s at_.toNat).1)) rfl) ?_
      refine WL.val1 (R_move (v := .int .i64 (top)) rfl) ?_
      refine WL.val1 (R_max (a := 0) (b := top) rfl rfl) ?_
      refine WL.val1 (R_gtr (a := (lenS s at_.toNat).1) (b := (max (0) (top))) rfl rfl) ?_
      refine WL.val1 (R_assign (v := .bool (decide ((max (0) (top)) < (lenS s at_.toNat).1))) rfl) ?_
      refine WL.nil ?_
      refine then_normal ?_
      refine WC.condP ((max (0) (top)) < (lenS s at_.toNat).1) rfl (fun c2 => ?_) (fun c2 => ?_)
      · skip
        refine WC.seq ?_
        refine WC.region ?_
        refine WL.val1 (R_move (v := .int .i64 (at_)) rfl) ?_
        refine WL.val1 (R_build (vs := [(0, .int .i64 (at_)), (1, .int .i64 (3))]) (v := .agg #[.int .i64 (at_), .int .i64 (3)]) rfl (fun _ => by kernel_rfl)) ?_
        refine S_box (l := [.int .i64 (at_), .int .i64 (3)]) (v := .agg #[.int .i64 (at_), .int .i64 (3)]) hS7 rfl rfl ?_
        intro w16 hS15
        obtain ⟨h17, hl18, hat19, hS20⟩ := hS15.commitRow (i := 0) rfl
        refine WL.val1 (R_makeInterface (v := .pointer (some ⟨w8.heap.size, 0, none⟩)) rfl (fun _ => by kernel_rfl)) ?_
        refine WL.val1 (R_assign (v := .string (B (([] : Str)))) rfl) ?_
        refine WL.val1 (R_assign (v := .int .i64 (0)) rfl) ?_
        refine WL.val1 (R_assign (v := .iface 130 (.pointer (some ⟨w8.heap.size, 0, none⟩))) rfl) ?_
        refine WL.nil ?_
        refine then_normal ?_
        refine WC.ret ?_
        refine block_ret ?_
        refine then_ret ?_
        refine top_ret (.tuple #[.string (B (([] : Str))), .int .i64 (0), .iface 130 (.pointer (some ⟨w8.heap.size, 0, none⟩))]) (gives3 rfl rfl rfl rfl) ?_
        have e_ := show getS s at_ top = _ from by unfold getS; rw [if_neg (by omega), if_neg (by omega), if_pos (by omega)]
        exact ⟨h17, (hl10.trans hl18), ⟨w8.heap.size, (by first | rfl | (rw [e_]; done) | (rw [e_]; rfl) | (simp; done)), (by first | exact ErrAt.of hat19 | (rw [e_]; exact ErrAt.of hat19))⟩, hS20.pop⟩
      · skip
        refine WC.seq ?_
        refine WC.region ?_
        refine WL.val1 (R_move (v := .int .i64 (((lenS s at_.toNat).2.1 + (lenS s at_.toNat).1))) rfl) ?_
        refine WL.val1 (R_add_i (a := ((lenS s at_.toNat).2.1 + (lenS s at_.toNat).1)) (b := 1) rfl rfl (by omega)) ?_
        refine WL.val1 (R_move (v := .string (B (s))) rfl) ?_
        refine WL.val1 (R_slen (a := s) rfl Tryz.underlying9) ?_
        refine WL.val1 (R_gtr (a := (((lenS s at_.toNat).2.1 + (lenS s at_.toNat).1) + 1)) (b := (((s).length : Nat) : Int)) rfl rfl) ?_
        refine WL.val1 (R_assign (v := .bool (decide ((((s).length : Nat) : Int) < (((lenS s at_.toNat).2.1 + (lenS s at_.toNat).1) + 1)))) rfl) ?_
        refine WL.nil ?_
        refine then_normal ?_
        refine WC.condP ((((s).length : Nat) : Int) < (((lenS s at_.toNat).2.1 + (lenS s at_.toNat).1) + 1)) rfl (fun c3 => ?_) (fun c3 => ?_)
        · skip
          refine WC.seq ?_
          refine WC.region ?_
          refine WL.val1 (R_move (v := .int .i64 (((lenS s at_.toNat).2.1 + (lenS s at_.toNat).1))) rfl) ?_
          refine WL.val1 (R_build (vs := [(0, .int .i64 (((lenS s at_.toNat).2.1 + (lenS s at_.toNat).1))), (1, .int .i64 (6))]) (v := .agg #[.int .i64 (((lenS s at_.toNat).2.1 + (lenS s at_.toNat).1)), .int .i64 (6)]) rfl (fun _ => by kernel_rfl)) ?_
          refine S_box (l := [.int .i64 (((lenS s at_.toNat).2.1 + (lenS s at_.toNat).1)), .int .i64 (6)]) (v := .agg #[.int .i64 (((lenS s at_.toNat).2.1 + (lenS s at_.toNat).1)), .int .i64 (6)]) hS7 rfl rfl ?_
          intro w22 hS21
          obtain ⟨h23, hl24, hat25, hS26⟩ := hS21.commitRow (i := 0) rfl
          refine WL.val1 (R_makeInterface (v := .pointer (some ⟨w8.heap.size, 0, none⟩)) rfl (fun _ => by kernel_rfl)) ?_
          refine WL.val1 (R_assign (v := .string (B (([] : Str)))) rfl) ?_
          refine WL.val1 (R_assign (v := .int .i64 (0)) rfl) ?_
          refine WL.val1 (R_assign (v := .iface 130 (.pointer (some ⟨w8.heap.size, 0, none⟩))) rfl) ?_
          refine WL.nil ?_
          refine then_normal ?_
          refine WC.ret ?_
          refine block_ret ?_
          refine then_ret ?_
          refine top_ret (.tuple #[.string (B (([] : Str))), .int .i64 (0), .iface 130 (.pointer (some ⟨w8.heap.size, 0, none⟩))]) (gives3 rfl rfl rfl rfl) ?_
          have e_ := show getS s at_ top = _ from by unfold getS; rw [if_neg (by omega), if_neg (by omega), if_neg (by omega), if_pos (by omega)]
          exact ⟨h23, (hl10.trans hl24), ⟨w8.heap.size, (by first | rfl | (rw [e_]; done) | (rw [e_]; rfl) | (simp; done)), (by first | exact ErrAt.of hat25 | (rw [e_]; exact ErrAt.of hat25))⟩, hS26.pop⟩
        · skip
          refine WC.seq ?_
          refine WC.region ?_
          refine WL.val1 (R_move (v := .string (B (s))) rfl) ?_
          refine WL.val1 (R_move (v := .int .i64 (((lenS s at_.toNat).2.1 + (lenS s at_.toNat).1))) rfl) ?_
          refine WL.val1 (R_sindex (a := s) (i := ((lenS s at_.toNat).2.1 + (lenS s at_.toNat).1)) (n := (((lenS s at_.toNat).2.1 + (lenS s at_.toNat).1)).toNat) rfl rfl Tryz.underlying9 (by first | rfl | (omega)) (by omega)) ?_
          have hb27 := at8_rng s (((lenS s at_.toNat).2.1 + (lenS s at_.toNat).1)).toNat
          refine WL.val1 (R_neq (a := (at8 s (((lenS s at_.toNat).2.1 + (lenS s at_.toNat).1)).toNat)) (b := 44) rfl rfl) ?_
          refine WL.val1 (R_assign (v := .bool (decide ((at8 s (((lenS s at_.toNat).2.1 + (lenS s at_.toNat).1)).toNat) ≠ 44))) rfl) ?_
          refine WL.nil ?_
          refine then_normal ?_
          refine WC.condP ((at8 s (((lenS s at_.toNat).2.1 + (lenS s at_.toNat).1)).toNat) ≠ 44) rfl (fun c4 => ?_) (fun c4 => ?_)
          · skip
            refine WC.seq ?_
            refine WC.region ?_
            refine WL.val1 (R_move (v := .int .i64 (((lenS s at_.toNat).2.1 + (lenS s at_.toNat).1))) rfl) ?_
            refine WL.val1 (R_build (vs := [(0, .int .i64 (((lenS s at_.toNat).2.1 + (lenS s at_.toNat).1))), (1, .int .i64 (5))]) (v := .agg #[.int .i64 (((lenS s at_.toNat).2.1 + (lenS s at_.toNat).1)), .int .i64 (5)]) rfl (fun _ => by kernel_rfl)) ?_
            refine S_box (l := [.int .i64 (((lenS s at_.toNat).2.1 + (lenS s at_.toNat).1)), .int .i64 (5)]) (v := .agg #[.int .i64 (((lenS s at_.toNat).2.1 + (lenS s at_.toNat).1)), .int .i64 (5)]) hS7 rfl rfl ?_
            intro w29 hS28
            obtain ⟨h30, hl31, hat32, hS33⟩ := hS28.commitRow (i := 0) rfl
            refine WL.val1 (R_makeInterface (v := .pointer (some ⟨w8.heap.size, 0, none⟩)) rfl (fun _ => by kernel_rfl)) ?_
            refine WL.val1 (R_assign (v := .string (B (([] : Str)))) rfl) ?_
            refine WL.val1 (R_assign (v := .int .i64 (0)) rfl) ?_
            refine WL.val1 (R_assign (v := .iface 130 (.pointer (some ⟨w8.heap.size, 0, none⟩))) rfl) ?_
            refine WL.nil ?_
            refine then_normal ?_
            refine WC.ret ?_
            refine block_ret ?_
            refine then_ret ?_
            refine top_ret (.tuple #[.string (B (([] : Str))), .int .i64 (0), .iface 130 (.pointer (some ⟨w8.heap.size, 0, none⟩))]) (gives3 rfl rfl rfl rfl) ?_
            have e_ := show getS s at_ top = _ from by unfold getS; rw [if_neg (by omega), if_neg (by omega), if_neg (by omega), if_neg (by omega), if_pos (by omega)]
            exact ⟨h30, (hl10.trans hl31), ⟨w8.heap.size, (by first | rfl | (rw [e_]; done) | (rw [e_]; rfl) | (simp; done)), (by first | exact ErrAt.of hat32 | (rw [e_]; exact ErrAt.of hat32))⟩, hS33.pop⟩
          · skip
            refine WC.skip ?_
            refine block_normal ?_
            refine then_normal ?_
            refine WC.seq ?_
            refine WC.region ?_
            refine WL.val1 (R_move (v := .string (B (s))) rfl) ?_
            refine WL.val1 (R_move (v := .int .i64 ((lenS s at_.toNat).2.1)) rfl) ?_
            refine WL.val1 (R_move (v := .int .i64 (((lenS s at_.toNat).2.1 + (lenS s at_.toNat).1))) rfl) ?_
            refine WL.val1 (R_sslice (a := s) (i := (lenS s at_.toNat).2.1) (j := ((lenS s at_.toNat).2.1 + (lenS s at_.toNat).1)) (m := ((lenS s at_.toNat).2.1).toNat) (n := (((lenS s at_.toNat).2.1 + (lenS s at_.toNat).1)).toNat) rfl rfl rfl Tryz.underlying9 (by first | rfl | (omega)) (by first | rfl | (omega)) (by omega) (by omega)) ?_
            refine WL.val1 (R_move (v := .int .i64 (((lenS s at_.toNat).2.1 + (lenS s at_.toNat).1))) rfl) ?_
            refine WL.val1 (R_add_i (a := ((lenS s at_.toNat).2.1 + (lenS s at_.toNat).1)) (b := 1) rfl rfl (by omega)) ?_
            refine WL.val1 (R_assign (v := .string (B (((s.take (((lenS s at_.toNat).2.1 + (lenS s at_.toNat).1)).toNat).drop ((lenS s at_.toNat).2.1).toNat)))) rfl) ?_
            refine WL.val1 (R_assign (v := .int .i64 ((((lenS s at_.toNat).2.1 + (lenS s at_.toNat).1) + 1))) rfl) ?_
            refine WL.val1 (R_assign (v := .nilIface) rfl) ?_
            refine WL.nil ?_
            refine then_normal ?_
            refine WC.ret ?_
            refine top_ret (.tuple #[.string (B (((s.take (((lenS s at_.toNat).2.1 + (lenS s at_.toNat).1)).toNat).drop ((lenS s at_.toNat).2.1).toNat))), .int .i64 ((((lenS s at_.toNat).2.1 + (lenS s at_.toNat).1) + 1)), .nilIface]) (gives3 rfl rfl rfl rfl) ?_
            have e_ := show getS s at_ top = _ from by unfold getS; rw [if_neg (by omega), if_neg (by omega), if_neg (by omega), if_neg (by omega), if_neg (by omega)]
            exact ⟨h9, hl10, ⟨0, (by first | rfl | (rw [e_]; done) | (rw [e_]; rfl) | (simp; done)), (by first | exact ErrAt.zero _ _ | (rw [e_]; exact ErrAt.zero _ _))⟩, hS7⟩
set_option maxHeartbeats 400000 in
theorem wire_Get (s : Str) (at_ : Int) (top : Int) (hs : s.length ≤ 1000000000) : PureC GG Tryz.prog 61 (fun _ => True) [.string (B (s)), .int .i64 (at_), .int .i64 (top)] (.tuple #[.string (B ((getS s at_ top).1)), .int .i64 ((getS s at_ top).2.1), .int .i64 ((getS s at_ top).2.2)]) := by
  intro Γ h L w hpre hS
  refine Ret.body Tryz.func61 rfl Tryz.ntmps61 (Nat.le_of_ble_eq_true rfl) ?_
  refine WC.seq ?_
  refine WC.region ?_
  refine WL.val1 (R_assign (v := .string (B (([] : Str)))) rfl) ?_
  refine WL.val1 (R_assign (v := .int .i64 (0)) rfl) ?_
  refine WL.val1 (R_assign (v := .int .i64 (0)) rfl) ?_
  refine WL.nil ?_
  refine then_normal ?_
  refine WC.seq ?_
  refine WC.region ?_
  refine WL.val1 (R_move (v := .string (B (s))) rfl) ?_
  refine WL.val1 (R_move (v := .int .i64 (at_)) rfl) ?_
  refine WL.val1 (R_move (v := .int .i64 (top)) rfl) ?_
  refine S_callF (vs := [.string (B (s)), .int .i64 (at_), .int .i64 (top)]) hS Tryz.call67 rfl (wire_get (s) (at_) (top) (by first | assumption | omega)) trivial ?_
  intro h3 v5 w2 hl4 hp6 hS1
  obtain ⟨b7, rfl, hf8⟩ := hp6
  refine WL.val1 (R_move (v := .tuple #[.string (B ((getS s at_ top).1)), .int .i64 ((getS s at_ top).2.1), errV 130 ((getS s at_ top).2.2) b7]) rfl) ?_
  refine WL.val1 (R_extract (vs := ([.string (B ((getS s at_ top).1)), .int .i64 ((getS s at_ top).2.1), errV 130 ((getS s at_ top).2.2) b7] : List Value).toArray) (v := .string (B ((getS s at_ top).1))) rfl rfl) ?_
  refine WL.val1 (R_extract (vs := ([.string (B ((getS s at_ top).1)), .int .i64 ((getS s at_ top).2.1), errV 130 ((getS s at_ top).2.2) b7] : List Value).toArray) (v := .int .i64 ((getS s at_ top).2.1)) rfl rfl) ?_
  refine WL.val1 (R_extract (vs := ([.string (B ((getS s at_ top).1)), .int .i64 ((getS s at_ top).2.1), errV 130 ((getS s at_ top).2.2) b7] : List Value).toArray) (v := errV 130 ((getS s at_ top).2.2) b7) rfl rfl) ?_
  refine WL.val1 (R_assign (v := .string (B ((getS s at_ top).1))) rfl) ?_
  refine WL.val1 (R_assign (v := .int .i64 ((getS s at_ top).2.1)) rfl) ?_
  refine WL.val1 (R_assign (v := errV 130 ((getS s at_ top).2.2) b7) rfl) ?_
  refine WL.nil ?_
  refine then_normal ?_
  refine WC.seq ?_
  refine WC.seq ?_
  refine WC.region ?_
  refine WL.val1 (R_move (v := errV 130 ((getS s at_ top).2.2) b7) rfl) ?_
  refine WL.val1 (R_errNeq (e := (getS s at_ top).2.2) (b := b7) (u := 130) rfl rfl (by kernel_rfl)) ?_
  refine WL.nil ?_
  refine then_normal ?_
  refine WC.condP ((getS s at_ top).2.2 ≠ 0) rfl (fun c0 => ?_) (fun c0 => ?_)
  · skip
    refine WC.seq ?_
    refine WC.region ?_
    refine WL.val1 (R_move (v := errV 130 ((getS s at_ top).2.2) b7) rfl) ?_
    refine S_callP (vs := [errV 130 ((getS s at_ top).2.2) b7]) hS1 Tryz.call68 rfl (wire_number ((getS s at_ top).2.2) (b7) (by first | assumption | omega)) hf8 ?_
    intro w10 hS9
    refine WL.val1 (R_assign (v := .string (B (([] : Str)))) rfl) ?_
    refine WL.val1 (R_assign (v := .int .i64 (0)) rfl) ?_
    refine WL.val1 (R_assign (v := .int .i64 (((getS s at_ top).2.2))) rfl) ?_
    refine WL.nil ?_
    refine then_normal ?_
    refine WC.ret ?_
    refine then_ret ?_
    refine top_ret (.tuple #[.string (B (([] : Str))), .int .i64 (0), .int .i64 (((getS s at_ top).2.2))]) (gives3 rfl rfl rfl rfl) ?_
    exact ⟨(by rw [(getS_err _ _ _ c0).1, (getS_err _ _ _ c0).2]), (hS9.weaken_h hl4)⟩
  · skip
    refine WC.skip ?_
    refine then_normal ?_
    refine WC.seq ?_
    refine WC.region ?_
    refine WL.val1 (R_move (v := .string (B ((getS s at_ top).1))) rfl) ?_
    refine WL.val1 (R_move (v := .int .i64 ((getS s at_ top).2.1)) rfl) ?_
    refine WL.val1 (R_assign (v := .string (B ((getS s at_ top).1))) rfl) ?_
    refine WL.val1 (R_assign (v := .int .i64 ((getS s at_ top).2.1)) rfl) ?_
    refine WL.val1 (R_assign (v := .int .i64 (0)) rfl) ?_
    refine WL.nil ?_
    refine then_normal ?_
    refine WC.ret ?_
    refine top_ret (.tuple #[.string (B ((getS s at_ top).1)), .int .i64 ((getS s at_ top).2.1), .int .i64 (0)]) (gives3 rfl rfl rfl rfl) ?_
    exact ⟨(by rw [show (getS s at_ top).2.2 = 0 by omega]), (hS1.weaken_h hl4)⟩
set_option maxHeartbeats 400000 in
theorem wire_All (s : Str) (hs : s.length ≤ 1000000000) : FnC GG Tryz.prog 54 (fun _ => True) [.string (B (s))] (fun h v => ∃ (a : Option Addr) (c : Nat), v = .tuple #[.slice (a) ((allS s).1).length (c), .int .i64 ((allS s).2)] ∧ (Sl Rstr h (allS s).1 a c)) := by
  intro Γ h L w hpre hS
  refine Ret.body Tryz.func54 rfl Tryz.ntmps54 (Nat.le_of_ble_eq_true rfl) ?_
  refine WC.seq ?_
  refine WC.region ?_
  refine WL.val1 (R_assign (v := .slice none 0 0) rfl) ?_
  refine WL.val1 (R_assign (v := .int .i64 (0)) rfl) ?_
  refine WL.nil ?_
  refine then_normal ?_
  refine WC.seq ?_
  refine WC.region ?_
  refine WL.val1 (R_assign (v := .slice none 0 0) rfl) ?_
  refine WL.nil ?_
  refine then_normal ?_
  refine WC.seq ?_
  refine WC.seq ?_
  refine WC.region ?_
  refine WL.val1 (R_assign (v := .int .i64 (0)) rfl) ?_
  refine WL.nil ?_
  refine then_normal ?_
  refine WC.block ?_
  have hS1 := hS.growNil 9 Rstr h
  refine WC.loopL (σ := Int × (List Str) × (Option Addr) × Nat)
    (fun (q_ : Int × (List Str) × (Option Addr) × Nat) => (fun (at_ : Int) (acc : List Str) (acc_a : Option Addr) (acc_c : Nat) => [(0, .string (B (s))), (4, .slice (acc_a) (acc).length (acc_c)), (5, .int .i64 (at_))]) (q_.1) (q_.2.1) (q_.2.2.1) (q_.2.2.2))
    (fun (q_ : Int × (List Str) × (Option Addr) × Nat) (w_ : World) => (fun (at_ : Int) (acc : List Str) (acc_a : Option Addr) (acc_c : Nat) => ∃ h4 : Hp, h.le h4 ∧ St Γ h4 (grow 9 Rstr h4 (acc) (acc_a) (acc_c) :: L) w_ ∧ (0 ≤ at_ ∧ at_ ≤ s.length) ∧ (acc.length ≤ at_) ∧ (∃ k : Nat, s.length + 1 ≤ at_ + k ∧ allF s k at_ acc = allS s)) (q_.1) (q_.2.1) (q_.2.2.1) (q_.2.2.2))
    (fun (q_ : Int × (List Str) × (Option Addr) × Nat) => (fun (at_ : Int) (acc : List Str) (acc_a : Option Addr) (acc_c : Nat) => (s.length + 1 - at_).toNat) (q_.1) (q_.2.1) (q_.2.2.1) (q_.2.2.2)) (0, ([] : List Str), none, 0) ?_ ?_ ?_
  · exact ⟨rfl, (by first | rfl | (apply congrArg (Value.int .i64); omega) | simp), (by first | rfl | (apply congrArg (Value.int .i64); omega) | simp), trivial⟩
  · exact ⟨h, Hp.le_refl _, hS1, (by first | assumption | omega | simp), (by first | assumption | omega | simp), (by exact ⟨s.length + 1, by omega, rfl⟩)⟩
  · rintro ⟨at_, acc, acc_a, acc_c⟩ r6 w3 ⟨h4, hl5, hS2, f1, f2, f3⟩
    try dsimp only at f1 f2 f3
    obtain ⟨k, hk, f3⟩ := f3
    have hb := getS_bd s at_ 999999
    refine WC.seq ?_
    refine WC.seq ?_
    refine WC.region ?_
    refine WL.val1 (R_move (v := .int .i64 (at_)) rfl) ?_
    refine WL.val1 (R_move (v := .string (B (s))) rfl) ?_
    refine WL.val1 (R_slen (a := s) rfl Tryz.underlying9) ?_
    refine WL.val1 (R_lss (a := at_) (b := (((s).length : Nat) : Int)) rfl rfl) ?_
    refine WL.nil ?_
    refine then_normal ?_
    refine WC.condP (at_ < (((s).length : Nat) : Int)) rfl (fun c0 => ?_) (fun c0 => ?_)
    · skip
      refine WC.skip ?_
      refine then_normal ?_
      refine WC.block ?_
      refine WC.seq ?_
      refine WC.region ?_
      refine WL.val1 (R_move (v := .string (B (s))) rfl) ?_
      refine WL.val1 (R_move (v := .int .i64 (at_)) rfl) ?_
      refine S_callP (vs := [.string (B (s)), .int .i64 (at_), .int .i64 (999999)]) hS2 Tryz.call61 rfl (wire_Get (s) (at_) (999999) (by first | assumption | omega)) trivial ?_
      intro w8 hS7
      refine WL.val1 (R_move (v := .tuple #[.string (B ((getS s at_ 999999).1)), .int .i64 ((getS s at_ 999999).2.1), .int .i64 ((getS s at_ 999999).2.2)]) rfl) ?_
      refine WL.val1 (R_extract (vs := ([.string (B ((getS s at_ 999999).1)), .int .i64 ((getS s at_ 999999).2.1), .int .i64 ((getS s at_ 999999).2.2)] : List Value).toArray) (v := .string (B ((getS s at_ 999999).1))) rfl rfl) ?_
      refine WL.val1 (R_extract (vs := ([.string (B ((getS s at_ 999999).1)), .int .i64 ((getS s at_ 999999).2.1), .int .i64 ((getS s at_ 999999).2.2)] : List Value).toArray) (v := .int .i64 ((getS s at_ 999999).2.1)) rfl rfl) ?_
      refine WL.val1 (R_extract (vs := ([.string (B ((getS s at_ 999999).1)), .int .i64 ((getS s at_ 999999).2.1), .int .i64 ((getS s at_ 999999).2.2)] : List Value).toArray) (v := .int .i64 ((getS s at_ 999999).2.2)) rfl rfl) ?_
      refine WL.val1 (R_assign (v := .string (B ((getS s at_ 999999).1))) rfl) ?_
      refine WL.val1 (R_assign (v := .int .i64 ((getS s at_ 999999).2.1)) rfl) ?_
      refine WL.val1 (R_assign (v := .int .i64 ((getS s at_ 999999).2.2)) rfl) ?_
      refine WL.nil ?_
      refine then_normal ?_
      refine WC.seq ?_
      refine WC.seq ?_
      refine WC.region ?_
      refine WL.val1 (R_move (v := .int .i64 ((getS s at_ 999999).2.2)) rfl) ?_
      refine WL.val1 (R_neq (a := (getS s at_ 999999).2.2) (b := 0) rfl rfl) ?_
      refine WL.nil ?_
      refine then_normal ?_
      refine WC.condP ((getS s at_ 999999).2.2 ≠ 0) rfl (fun c1 => ?_) (fun c1 => ?_)
      · skip
        refine WC.seq ?_
        refine WC.region ?_
        refine WL.val1 (R_move (v := .int .i64 ((getS s at_ 999999).2.2)) rfl) ?_
        refine WL.val1 (R_assign (v := .slice none 0 0) rfl) ?_
        refine WL.val1 (R_assign (v := .int .i64 ((getS s at_ 999999).2.2)) rfl) ?_
        refine WL.nil ?_
        refine then_normal ?_
        refine WC.ret ?_
        refine then_ret ?_
        refine block_ret ?_
        refine then_ret ?_
        refine block_ret ?_
        refine then_ret ?_
        refine top_ret (.tuple #[.slice none 0 0, .int .i64 ((getS s at_ 999999).2.2)]) (gives2 rfl rfl rfl) ?_
        have e_ := allF_err s at_ acc k hk f3 c0 c1
        exact ⟨h4, hl5, ⟨none, 0, (by first | rfl | (rw [e_]; done) | (rw [e_]; rfl) | (simp; done)), (by first | exact Sl.nil _ _ _ _ | (rw [e_]; exact Sl.nil _ _ _ _))⟩, hS7.pop⟩
      · skip
        refine WC.skip ?_
        refine then_normal ?_
        refine WC.region ?_
        refine WL.val1 (R_move (v := .slice (acc_a) (acc).length (acc_c)) rfl) ?_
        refine WL.val1 (R_move (v := .string (B ((getS s at_ 999999).1))) rfl) ?_
        refine S_buildSliceC (R := Rstr) (m := 1) (vs := [(0, .string (B ((getS s at_ 999999).1)))]) (cells := [.string (B ((getS s at_ 999999).1))]) (xs := [(getS s at_ 999999).1]) hS7 Tryz.underlying102 Tryz.sizeOf9 Tryz.zeroValue9 (by decide) (by decide) rfl (by kernel_rfl) (by exact (⟨[.string (B ((getS s at_ 999999).1))], _, rfl, rfl, rfl⟩ : Flat Rstr _ [(getS s at_ 999999).1] _)) rfl ?_
        intro h11 b13 w10 hl12 hs14 hS9
        refine S_append (info := Tryz.t9) (R := Rstr) (xs := acc) (ys := [(getS s at_ 999999).1]) (a := acc_a) (c := acc_c) 0 Tryz.underlying102 (by kernel_rfl) rfl rfl rfl (by decide) 16 rfl hS9 rfl hl12 hs14 rfl rfl (by (try simp only [List.length_append, List.length_cons, List.length_nil]); omega) (by (try simp only [List.length_append, List.length_cons, List.length_nil]); omega) ?_
        intro a15 c16 w17 hS18
        refine WL.val1 (R_move (v := .int .i64 ((getS s at_ 999999).2.1)) rfl) ?_
        refine WL.val1 (R_assign (v := .slice (a15) ((acc ++ [(getS s at_ 999999).1])).length (c16)) rfl) ?_
        refine WL.val1 (R_assign (v := .int .i64 ((getS s at_ 999999).2.1)) rfl) ?_
        refine WL.nil ?_
        refine block_normal ?_
        refine then_normal ?_
        exact ⟨((getS s at_ 999999).2.1, (acc ++ [(getS s at_ 999999).1]), a15, c16), ⟨rfl, (by first | rfl | (apply congrArg (Value.int .i64); omega) | simp), (by first | rfl | (apply congrArg (Value.int .i64); omega) | simp), trivial⟩, ⟨h11, (hl5.trans hl12), hS18, (by (try dsimp only); omega), (by (try dsimp only); simp; omega), (by (try dsimp only); exact allF_next s at_ acc k hk f3 c0 (by omega))⟩, (by first | (simp only []; omega) | (simp; omega))⟩
    · skip
      refine WC.exit ?_
      refine then_exit ?_
      refine then_exit ?_
      refine block_exit ?_
      refine then_normal ?_
      refine WC.seq ?_
      refine WC.region ?_
      refine WL.val1 (R_move (v := .slice (acc_a) (acc).length (acc_c)) rfl) ?_
      refine WL.val1 (R_assign (v := .slice (acc_a) (acc).length (acc_c)) rfl) ?_
      refine WL.val1 (R_assign (v := .int .i64 (0)) rfl) ?_
      refine WL.nil ?_
      refine then_normal ?_
      refine WC.ret ?_
      refine top_ret (.tuple #[.slice (acc_a) (acc).length (acc_c), .int .i64 (0)]) (gives2 rfl rfl rfl) ?_
      obtain ⟨h19, hl20, hs21, hS22⟩ := hS2.growCommit (i := 0) rfl (Hp.le_refl _)
      have e_ := allF_end s at_ acc k hk f3 c0
      exact ⟨h19, (hl5.trans hl20), ⟨acc_a, acc_c, (by first | rfl | (rw [e_]; done) | (rw [e_]; rfl) | (simp; done)), (by first | exact hs21 | (rw [e_]; exact hs21))⟩, hS22.pop⟩
set_option maxHeartbeats 400000 in
theorem files_Name (s : Str) (hs : s.length ≤ 9223372036854775807) : PureC GG Tryz.prog 45 (fun _ => True) [.string (B (s))] (.bool (nameS s)) := by
  intro Γ h L w hpre hS
  refine Ret.body Tryz.func45 rfl Tryz.ntmps45 (Nat.le_of_ble_eq_true rfl) ?_
  refine WC.seq ?_
  refine WC.region ?_
  refine WL.val1 (R_assign (v := .bool (false)) rfl) ?_
  refine WL.nil ?_
  refine then_normal ?_
  refine WC.seq ?_
  refine WC.seq ?_
  refine WC.region ?_
  refine WL.val1 (R_move (v := .string (B (s))) rfl) ?_
  refine WL.val1 (R_slen (a := s) rfl Tryz.underlying9) ?_
  refine WL.val1 (R_move (v := .int .i64 (0)) rfl) ?_
  refine WL.nil ?_
  refine then_normal ?_
  refine WC.block ?_
  refine WC.loopL (σ := Nat)
    (fun (q_ : Nat) => (fun (i : Nat) => [(0, .string (B (s))), (5, .int .i64 ((((s).length : Nat) : Int))), (6, .int .i64 (((i : Nat) : Int)))]) (q_))
    (fun (q_ : Nat) (w_ : World) => (fun (i : Nat) => ∃ h3 : Hp, h.le h3 ∧ St Γ h3 (L) w_ ∧ (i ≤ s.length) ∧ (nameF (s.drop i) = nameF s)) (q_))
    (fun (q_ : Nat) => (fun (i : Nat) => s.length - i) (q_)) (0) ?_ ?_ ?_
  · exact ⟨rfl, rfl, (by first | rfl | (apply congrArg (Value.int .i64); omega) | simp), trivial⟩
  · exact ⟨h, Hp.le_refl _, hS, (by first | assumption | omega | simp), (by rfl)⟩
  · rintro i r5 w2 ⟨h3, hl4, hS1, f1, f2⟩
    try dsimp only at f1 f2
    have hx := lits_ok (at8_rng s i)
    refine WC.seq ?_
    refine WC.region ?_
    refine WL.val1 (R_lss (a := ((i : Nat) : Int)) (b := (((s).length : Nat) : Int)) rfl rfl) ?_
    refine WL.nil ?_
    refine then_normal ?_
    refine WC.seq ?_
    refine WC.condP (((i : Nat) : Int) < (((s).length : Nat) : Int)) rfl (fun c0 => ?_) (fun c0 => ?_)
    · skip
      refine WC.skip ?_
      refine then_normal ?_
      refine WC.seq ?_
      refine WC.block ?_
      refine WC.seq ?_
      refine WC.region ?_
      refine WL.val1 (R_move (v := .int .i64 (((i : Nat) : Int))) rfl) ?_
      refine WL.val1 (R_assign (v := .int .i64 (((i : Nat) : Int))) rfl) ?_
      refine WL.nil ?_
      refine then_normal ?_
      refine WC.seq ?_
      refine WC.region ?_
      refine WL.val1 (R_move (v := .string (B (s))) rfl) ?_
      refine WL.val1 (R_move (v := .int .i64 (((i : Nat) : Int))) rfl) ?_
      refine WL.val1 (R_sindex (a := s) (i := ((i : Nat) : Int)) (n := i) rfl rfl Tryz.underlying9 (by first | rfl | (omega)) (by omega)) ?_
      have hb6 := at8_rng s i
      refine S_callP (vs := [.string (B (([97, 98, 99, 100, 101, 102, 103, 104, 105, 106, 107, 108, 109, 110, 111, 112, 113, 114, 115, 116, 117, 118, 119, 120, 121, 122, 48, 49, 50, 51, 52, 53, 54, 55, 56, 57, 45, 46] : Str))), .int .u8 ((at8 s i))]) hS1 Tryz.call57 rfl (lib_IndexByte (([97, 98, 99, 100, 101, 102, 103, 104, 105, 106, 107, 108, 109, 110, 111, 112, 113, 114, 115, 116, 117, 118, 119, 120, 121, 122, 48, 49, 50, 51, 52, 53, 54, 55, 56, 57, 45, 46] : Str)) ((at8 s i))) trivial ?_
      intro w8 hS7
      refine WL.val1 (R_lss (a := (Lib.indexByte (([97, 98, 99, 100, 101, 102, 103, 104, 105, 106, 107, 108, 109, 110, 111, 112, 113, 114, 115, 116, 117, 118, 119, 120, 121, 122, 48, 49, 50, 51, 52, 53, 54, 55, 56, 57, 45, 46] : Str)) ((at8 s i)).toNat.toUInt8)) (b := 0) rfl rfl) ?_
      refine WL.nil ?_
      refine then_normal ?_
      refine WC.condP ((Lib.indexByte (([97, 98, 99, 100, 101, 102, 103, 104, 105, 106, 107, 108, 109, 110, 111, 112, 113, 114, 115, 116, 117, 118, 119, 120, 121, 122, 48, 49, 50, 51, 52, 53, 54, 55, 56, 57, 45, 46] : Str)) ((at8 s i)).toNat.toUInt8) < 0) rfl (fun c1 => ?_) (fun c1 => ?_)
      · skip
        refine WC.seq ?_
        refine WC.region ?_
        refine WL.val1 (R_assign (v := .bool (false)) rfl) ?_
        refine WL.nil ?_
        refine then_normal ?_
        refine WC.ret ?_
        refine block_ret ?_
        refine then_ret ?_
        refine then_ret ?_
        refine block_ret ?_
        refine then_ret ?_
        refine top_ret (.bool (false)) (gives1 rfl rfl) ?_
        exact ⟨(by rw [nameS, ← f2, nameF_step s i (by omega), hx.1 c1]; rfl), (hS7.weaken_h hl4)⟩
      · skip
        refine WC.skip ?_
        refine block_normal ?_
        refine then_normal ?_
        refine WC.region ?_
        refine WL.val1 (R_add_i (a := ((i : Nat) : Int)) (b := 1) rfl rfl (by omega)) ?_
        refine WL.val1 (R_move (v := .int .i64 ((((i : Nat) : Int) + 1))) rfl) ?_
        refine WL.nil ?_
        refine then_normal ?_
        exact ⟨(i + 1), ⟨rfl, rfl, (by first | rfl | (apply congrArg (Value.int .i64); omega) | simp), trivial⟩, ⟨h3, hl4, hS7, (by (try dsimp only); first | assumption | omega | simp), (by (try dsimp only); rw [← f2, nameF_step s i (by omega), show okB (at8 s i) = true by cases hk : okB (at8 s i); exact absurd (hx.2 hk) c1; rfl]; rfl)⟩, (by first | (simp only []; omega) | (simp; omega))⟩
    · skip
      refine WC.exit ?_
      refine then_exit ?_
      refine then_exit ?_
      refine block_exit ?_
      refine then_normal ?_
      refine WC.seq ?_
      refine WC.region ?_
      refine WL.val1 (R_move (v := .string (B (s))) rfl) ?_
      refine WL.val1 (R_slen (a := s) rfl Tryz.underlying9) ?_
      refine WL.val1 (R_geq (a := (((s).length : Nat) : Int)) (b := 1) rfl rfl) ?_
      refine WL.val1 (R_move (v := .bool (decide (1 ≤ (((s).length : Nat) : Int)))) rfl) ?_
      refine WL.gpure (gd := decide (1 ≤ (((s).length : Nat) : Int))) (yl_t (d := 18) rfl rfl) (fun hg => R_move (v := .string (B (s))) rfl) ?_
      refine WL.gpure (gd := decide (1 ≤ (((s).length : Nat) : Int))) (yl_t (d := 18) rfl rfl) (fun hg => R_slen (a := s) (gvT hg rfl) Tryz.underlying9) ?_
      refine WL.gpure (gd := decide (1 ≤ (((s).length : Nat) : Int))) (yl_t (d := 18) rfl rfl) (fun hg => R_leq (a := (((s).length : Nat) : Int)) (b := 24) (gvT hg rfl) rfl) ?_
      refine WL.val1 (R_and (cb := decide (1 ≤ (((s).length : Nat) : Int))) (yb := decide ((((s).length : Nat) : Int) ≤ 24)) rfl rfl rfl) ?_
      refine WL.val1 (R_assign (v := .bool ((decide (1 ≤ (((s).length : Nat) : Int)) && decide ((((s).length : Nat) : Int) ≤ 24)))) rfl) ?_
      refine WL.nil ?_
      refine then_normal ?_
      refine WC.ret ?_
      refine top_ret (.bool ((decide (1 ≤ (((s).length : Nat) : Int)) && decide ((((s).length : Nat) : Int) ≤ 24)))) (gives1 rfl rfl) ?_
      exact ⟨(by rw [nameS, ← f2, nameF_end s i (by omega)]; apply congrArg Value.bool; rw [Bool.eq_iff_iff]; simp <;> omega), (hS1.weaken_h hl4)⟩
set_option maxHeartbeats 400000 in
theorem files_Right (l : List File) (l_a : Option Addr) (l_c : Nat) (hl : l.length ≤ 1000000000) (hsz : ∀ x ∈ l, x.name.length ≤ 9223372036854775807 ∧ x.text.length ≤ 9223372036854775807) : PureC GG Tryz.prog 23 (fun h => Sl RFile h l l_a l_c) [.slice (l_a) (l).length (l_c)] (.bool (rightS l)) := by
  intro Γ h L w hpre hS
  have sl_l := hpre
  refine Ret.body Tryz.func23 rfl Tryz.ntmps23 (Nat.le_of_ble_eq_true rfl) ?_
  refine WC.seq ?_
  refine WC.region ?_
  refine WL.val1 (R_assign (v := .bool (false)) rfl) ?_
  refine WL.nil ?_
  refine then_normal ?_
  refine WC.seq ?_
  refine WC.seq ?_
  refine WC.region ?_
  refine WL.val1 (R_move (v := .slice (l_a) (l).length (l_c)) rfl) ?_
  refine WL.val1 (R_len_slice (n := (l).length) rfl Tryz.underlying30) ?_
  refine WL.val1 (R_move (v := .int .i64 (0)) rfl) ?_
  refine WL.nil ?_
  refine then_normal ?_
  refine WC.block ?_
  refine WC.loopL (σ := Nat)
    (fun (q_ : Nat) => (fun (i : Nat) => [(0, .slice (l_a) (l).length (l_c)), (5, .slice (l_a) (l).length (l_c)), (6, .int .i64 ((((l).length : Nat) : Int))), (7, .int .i64 (((i : Nat) : Int)))]) (q_))
    (fun (q_ : Nat) (w_ : World) => (fun (i : Nat) => ∃ h3 : Hp, h.le h3 ∧ St Γ h3 (L) w_ ∧ (i ≤ l.length) ∧ (rightF (prevN l i) (l.drop i) = rightF none l)) (q_))
    (fun (q_ : Nat) => (fun (i : Nat) => l.length - i) (q_)) (0) ?_ ?_ ?_
  · exact ⟨rfl, rfl, rfl, (by first | rfl | (apply congrArg (Value.int .i64); omega) | simp), trivial⟩
  · exact ⟨h, Hp.le_refl _, hS, (by first | assumption | omega | simp), (by rfl)⟩
  · rintro i r5 w2 ⟨h3, hl4, hS1, f1, f2⟩
    try dsimp only at f1 f2
    refine WC.seq ?_
    refine WC.region ?_
    refine WL.val1 (R_lss (a := ((i : Nat) : Int)) (b := (((l).length : Nat) : Int)) rfl rfl) ?_
    refine WL.nil ?_
    refine then_normal ?_
    refine WC.seq ?_
    refine WC.condP (((i : Nat) : Int) < (((l).length : Nat) : Int)) rfl (fun c0 => ?_) (fun c0 => ?_)
    · skip
      refine WC.skip ?_
      refine then_normal ?_
      refine WC.seq ?_
      refine WC.block ?_
      refine WC.seq ?_
      refine WC.region ?_
      refine WL.val1 (R_move (v := .int .i64 (((i : Nat) : Int))) rfl) ?_
      obtain ⟨z_l_i, hz_l_i⟩ : ∃ z, (l)[i]? = some z := ⟨_, List.getElem?_eq_getElem (by omega)⟩
      obtain ⟨b6, o7, cs11, ha8, hr9, hat10⟩ := (sl_l.mono hl4).2 i z_l_i hz_l_i
      subst hr9
      have hb_l_i := hsz z_l_i (List.mem_of_getElem? hz_l_i)
      refine WL.val1 (R_indexAddrE (i := ((i : Nat) : Int)) (m := i) ha8 rfl rfl Tryz.underlying30 (Tryz.sizeOf29 _) (by first | rfl | (omega)) (by omega)) ?_
      refine WL.val1 (R_loadCA (cs := [.string (B (z_l_i.name)), .string (B (z_l_i.text))]) hS1 rfl hat10 Tryz.isAgg29 Tryz.sizeOf29 rfl) ?_
      refine S_alloc hS1 Tryz.zeroValue29 ?_
      intro w13 hS12
      refine WL.val1 (R_assign (v := .int .i64 (((i : Nat) : Int))) rfl) ?_
      refine S_store (i := 0) (b := w2.heap.size) (l := [.string (B (([] : Str))), .string (B (([] : Str)))]) (l' := [.string (B (z_l_i.name)), .string (B (z_l_i.text))]) (vs := [.string (B (z_l_i.name)), .string (B (z_l_i.text))]) (v := .agg #[.string (B (z_l_i.name)), .string (B (z_l_i.text))]) hS12 rfl rfl rfl Tryz.sizeOf29 rfl rfl rfl (Nat.le_of_ble_eq_true rfl) rfl rfl ?_
      intro w15 hS14
      refine WL.nil ?_
      refine then_normal ?_
      refine WC.seq ?_
      obtain ⟨z_l_i_1, hz_l_i_1⟩ : ∃ z, (l)[(i - 1)]? = some z := ⟨_, List.getElem?_eq_getElem (by omega)⟩
      obtain ⟨b90, o91, cs95, ha92, hr93, hat94⟩ := (sl_l.mono hl4).2 (i - 1) z_l_i_1 hz_l_i_1
      subst hr93
      have hb_l_i_1 := hsz z_l_i_1 (List.mem_of_getElem? hz_l_i_1)
      refine WC.draw 22 [(0, .slice (l_a) (l).length (l_c)), (3, .int .i64 (((i : Nat) : Int))), (4, .pointer (some ⟨w2.heap.size, 0, none⟩)), (5, .slice (l_a) (l).length (l_c)), (6, .int .i64 ((((l).length : Nat) : Int))), (7, .int .i64 (((i : Nat) : Int)))] ((fun _ v => v = .pointer (some ⟨w2.heap.size, 0, none⟩)) :: (fun _ v => v = .string (B (z_l_i.name))) :: (fun _ v => v = .bool (nameS z_l_i.name)) :: (fun _ v => v = .bool ((!(nameS z_l_i.name)))) :: (fun _ v => v = .bool ((!(nameS z_l_i.name)))) :: (fun _ v => v = gv ((!((!(nameS z_l_i.name))))) (.pointer (some ⟨w2.heap.size, 1, none⟩))) :: (fun _ v => v = gv ((!((!(nameS z_l_i.name))))) (.string (B (z_l_i.text)))) :: (fun _ v => v = gv ((!((!(nameS z_l_i.name))))) (.int .i64 ((((z_l_i.text).length : Nat) : Int)))) :: (fun _ v => v = gv ((!((!(nameS z_l_i.name))))) (.bool (decide (4000 < (((z_l_i.text).length : Nat) : Int))))) :: (fun _ v => v = .bool (((!(nameS z_l_i.name)) || decide (4000 < (((z_l_i.text).length : Nat) : Int))))) :: (fun _ v => v = .bool (((!(nameS z_l_i.name)) || decide (4000 < (((z_l_i.text).length : Nat) : Int))))) :: (fun _ v => v = gv ((!(((!(nameS z_l_i.name)) || decide (4000 < (((z_l_i.text).length : Nat) : Int)))))) (.int .i64 (((i : Nat) : Int)))) :: (fun _ v => v = gv ((!(((!(nameS z_l_i.name)) || decide (4000 < (((z_l_i.text).length : Nat) : Int)))))) (.bool (decide (0 < ((i : Nat) : Int))))) :: (fun _ v => v = gv ((!(((!(nameS z_l_i.name)) || decide (4000 < (((z_l_i.text).length : Nat) : Int)))))) (.bool (decide (0 < ((i : Nat) : Int))))) :: (fun _ v => v = gv ((((!(((!(nameS z_l_i.name)) || decide (4000 < (((z_l_i.text).length : Nat) : Int)))))) && (decide (0 < ((i : Nat) : Int))))) (.slice (l_a) (l).length (l_c))) :: (fun _ v => v = gv ((((!(((!(nameS z_l_i.name)) || decide (4000 < (((z_l_i.text).length : Nat) : Int)))))) && (decide (0 < ((i : Nat) : Int))))) (.int .i64 (((i : Nat) : Int)))) :: (fun _ v => v = gv ((((!(((!(nameS z_l_i.name)) || decide (4000 < (((z_l_i.text).length : Nat) : Int)))))) && (decide (0 < ((i : Nat) : Int))))) (.int .i64 ((((i : Nat) : Int) - 1)))) :: (fun _ v => v = gv ((((!(((!(nameS z_l_i.name)) || decide (4000 < (((z_l_i.text).length : Nat) : Int)))))) && (decide (0 < ((i : Nat) : Int))))) (.pointer (some ⟨b90, (o91 + (i - 1) * RFile.n), none⟩))) :: (fun _ v => v = gv ((((!(((!(nameS z_l_i.name)) || decide (4000 < (((z_l_i.text).length : Nat) : Int)))))) && (decide (0 < ((i : Nat) : Int))))) (.pointer (some ⟨b90, (o91 + (i - 1) * RFile.n), none⟩))) :: (fun _ v => v = gv ((((!(((!(nameS z_l_i.name)) || decide (4000 < (((z_l_i.text).length : Nat) : Int)))))) && (decide (0 < ((i : Nat) : Int))))) (.string (B (z_l_i_1.name)))) :: (fun _ v => v = gv ((((!(((!(nameS z_l_i.name)) || decide (4000 < (((z_l_i.text).length : Nat) : Int)))))) && (decide (0 < ((i : Nat) : Int))))) (.pointer (some ⟨w2.heap.size, 0, none⟩))) :: (fun _ v => v = gv ((((!(((!(nameS z_l_i.name)) || decide (4000 < (((z_l_i.text).length : Nat) : Int)))))) && (decide (0 < ((i : Nat) : Int))))) (.string (B (z_l_i.name)))) :: []) hS14 (by kernel_rfl) (by kernel_rfl) (MonoFs.pure (MonoFs.pure (MonoFs.pure (MonoFs.pure (MonoFs.pure (MonoFs.pure (MonoFs.pure (MonoFs.pure (MonoFs.pure (MonoFs.pure (MonoFs.pure (MonoFs.pure (MonoFs.pure (MonoFs.pure (MonoFs.pure (MonoFs.pure (MonoFs.pure (MonoFs.pure (MonoFs.pure (MonoFs.pure (MonoFs.pure (MonoFs.pure MonoFs.nil)))))))))))))))))))))) ⟨rfl, rfl, rfl, rfl, rfl, rfl, trivial⟩ ⟨?_, ?_, ?_, ?_, ?_, ?_, ?_, ?_, ?_, ?_, ?_, ?_, ?_, ?_, ?_, ?_, ?_, ?_, ?_, ?_, ?_, ?_, trivial⟩ ?_
      · intro r_ w113 h114 hl115 hS112 hb_ hp_
        obtain ⟨b0_, b1_, b2_, b3_, b4_, b5_, _⟩ := hb_
        refine WL.val1 (R_fieldAddr (b := w2.heap.size) (off := 0) (m := 0) b2_ (fun _ => by kernel_rfl)) ?_
        refine WL.nil ?_
        exact ⟨rfl, _, _, rfl, (Hp.le_refl _), rfl, hS112⟩
      · intro r_ w117 h118 hl119 hS116 hb_ hp_
        obtain ⟨b0_, b1_, b2_, b3_, b4_, b5_, _⟩ := hb_
        obtain ⟨p0_, _⟩ := hp_
        have p0_ : r_ 12 = .pointer (some ⟨w2.heap.size, 0, none⟩) := p0_
        refine WL.val1 (R_load (v := .string (B (z_l_i.name))) p0_ (hS116.has (i := 0) rfl) (Tryz.isAgg9 _) rfl) ?_
        refine WL.nil ?_
        exact ⟨rfl, _, _, rfl, (Hp.le_refl _), rfl, hS116⟩
      · intro r_ w121 h122 hl123 hS120 hb_ hp_
        obtain ⟨b0_, b1_, b2_, b3_, b4_, b5_, _⟩ := hb_
        obtain ⟨p0_, _⟩ := hp_
        have p0_ : r_ 13 = .string (B (z_l_i.name)) := p0_
        refine S_callP (vs := [.string (B (z_l_i.name))]) hS120 Tryz.call45 (hmap1 p0_) (files_Name (z_l_i.name) (by first | assumption | omega)) trivial ?_
        intro w125 hS124
        refine WL.nil ?_
        exact ⟨rfl, _, _, rfl, (Hp.le_refl _), rfl, hS124⟩
      · intro r_ w127 h128 hl129 hS126 hb_ hp_
        obtain ⟨b0_, b1_, b2_, b3_, b4_, b5_, _⟩ := hb_
        obtain ⟨p0_, _⟩ := hp_
        have p0_ : r_ 14 = .bool (nameS z_l_i.name) := p0_
        refine WL.val1 (R_not (b := nameS z_l_i.name) p0_) ?_
        refine WL.nil ?_
        exact ⟨rfl, _, _, rfl, (Hp.le_refl _), rfl, hS126⟩
      · intro r_ w131 h132 hl133 hS130 hb_ hp_
        obtain ⟨b0_, b1_, b2_, b3_, b4_, b5_, _⟩ := hb_
        obtain ⟨p0_, p1_, _⟩ := hp_
        have p0_ : r_ 15 = .bool ((!(nameS z_l_i.name))) := p0_
        have p1_ : r_ 14 = .bool (nameS z_l_i.name) := p1_
        refine WL.val1 (R_move (v := .bool ((!(nameS z_l_i.name)))) p0_) ?_
        refine WL.nil ?_
        exact ⟨rfl, _, _, rfl, (Hp.le_refl _), rfl, hS130⟩
      · intro r_ w135 h136 hl137 hS134 hb_ hp_
        obtain ⟨b0_, b1_, b2_, b3_, b4_, b5_, _⟩ := hb_
        obtain ⟨p0_, _⟩ := hp_
        have p0_ : r_ 16 = .bool ((!(nameS z_l_i.name))) := p0_
        refine WL.gpure (gd := (!((!(nameS z_l_i.name))))) (yl_f (d := 16) rfl p0_) (fun hg => R_fieldAddr (b := w2.heap.size) (off := 0) (m := 1) b2_ (fun _ => by kernel_rfl)) ?_
        refine WL.nil ?_
        exact ⟨rfl, _, _, rfl, (Hp.le_refl _), rfl, hS134⟩
      · intro r_ w139 h140 hl141 hS138 hb_ hp_
        obtain ⟨b0_, b1_, b2_, b3_, b4_, b5_, _⟩ := hb_
        obtain ⟨p0_, p1_, _⟩ := hp_
        have p0_ : r_ 17 = gv ((!((!(nameS z_l_i.name))))) (.pointer (some ⟨w2.heap.size, 1, none⟩)) := p0_
        have p1_ : r_ 16 = .bool ((!(nameS z_l_i.name))) := p1_
        refine WL.gpure (gd := (!((!(nameS z_l_i.name))))) (yl_f (d := 16) rfl p1_) (fun hg => R_load (v := .string (B (z_l_i.text))) (gvT hg p0_) (hS138.has (i := 0) rfl) (Tryz.isAgg9 _) rfl) ?_
        refine WL.nil ?_
        exact ⟨rfl, _, _, rfl, (Hp.le_refl _), rfl, hS138⟩
      · intro r_ w143 h144 hl145 hS142 hb_ hp_
        obtain ⟨b0_, b1_, b2_, b3_, b4_, b5_, _⟩ := hb_
        obtain ⟨p0_, p1_, _⟩ := hp_
        have p0_ : r_ 18 = gv ((!((!(nameS z_l_i.name))))) (.string (B (z_l_i.text))) := p0_
        have p1_ : r_ 16 = .bool ((!(nameS z_l_i.name))) := p1_
        refine WL.gpure (gd := (!((!(nameS z_l_i.name))))) (yl_f (d := 16) rfl p1_) (fun hg => R_slen (a := z_l_i.text) (gvT hg p0_) Tryz.underlying9) ?_
        refine WL.nil ?_
        exact ⟨rfl, _, _, rfl, (Hp.le_refl _), rfl, hS142⟩
      · intro r_ w147 h148 hl149 hS146 hb_ hp_
        obtain ⟨b0_, b1_, b2_, b3_, b4_, b5_, _⟩ := hb_
        obtain ⟨p0_, p1_, _⟩ := hp_
        have p0_ : r_ 19 = gv ((!((!(nameS z_l_i.name))))) (.int .i64 ((((z_l_i.text).length : Nat) : Int))) := p0_
        have p1_ : r_ 16 = .bool ((!(nameS z_l_i.name))) := p1_
        refine WL.gpure (gd := (!((!(nameS z_l_i.name))))) (yl_f (d := 16) rfl p1_) (fun hg => R_gtr (a := (((z_l_i.text).length : Nat) : Int)) (b := 4000) (gvT hg p0_) rfl) ?_
        refine WL.nil ?_
        exact ⟨rfl, _, _, rfl, (Hp.le_refl _), rfl, hS146⟩
      · intro r_ w151 h152 hl153 hS150 hb_ hp_
        obtain ⟨b0_, b1_, b2_, b3_, b4_, b5_, _⟩ := hb_
        obtain ⟨p0_, p1_, _⟩ := hp_
        have p0_ : r_ 16 = .bool ((!(nameS z_l_i.name))) := p0_
        have p1_ : r_ 20 = gv ((!((!(nameS z_l_i.name))))) (.bool (decide (4000 < (((z_l_i.text).length : Nat) : Int)))) := p1_
        refine WL.val1 (R_or (cb := (!(nameS z_l_i.name))) (yb := decide (4000 < (((z_l_i.text).length : Nat) : Int))) p0_ rfl p1_) ?_
        refine WL.nil ?_
        exact ⟨rfl, _, _, rfl, (Hp.le_refl _), rfl, hS150⟩
      · intro r_ w155 h156 hl157 hS154 hb_ hp_
        obtain ⟨b0_, b1_, b2_, b3_, b4_, b5_, _⟩ := hb_
        obtain ⟨p0_, p1_, _⟩ := hp_
        have p0_ : r_ 21 = .bool (((!(nameS z_l_i.name)) || decide (4000 < (((z_l_i.text).length : Nat) : Int)))) := p0_
        have p1_ : r_ 16 = .bool ((!(nameS z_l_i.name))) := p1_
        refine WL.val1 (R_move (v := .bool (((!(nameS z_l_i.name)) || decide (4000 < (((z_l_i.text).length : Nat) : Int))))) p0_) ?_
        refine WL.nil ?_
        exact ⟨rfl, _, _, rfl, (Hp.le_refl _), rfl, hS154⟩
      · intro r_ w159 h160 hl161 hS158 hb_ hp_
        obtain ⟨b0_, b1_, b2_, b3_, b4_, b5_, _⟩ := hb_
        obtain ⟨p0_, _⟩ := hp_
        have p0_ : r_ 22 = .bool (((!(nameS z_l_i.name)) || decide (4000 < (((z_l_i.text).length : Nat) : Int)))) := p0_
        refine WL.gpure (gd := (!(((!(nameS z_l_i.name)) || decide (4000 < (((z_l_i.text).length : Nat) : Int)))))) (yl_f (d := 22) rfl p0_) (fun hg => R_move (v := .int .i64 (((i : Nat) : Int))) b1_) ?_
        refine WL.nil ?_
        exact ⟨rfl, _, _, rfl, (Hp.le_refl _), rfl, hS158⟩
      · intro r_ w163 h164 hl165 hS162 hb_ hp_
        obtain ⟨b0_, b1_, b2_, b3_, b4_, b5_, _⟩ := hb_
        obtain ⟨p0_, p1_, _⟩ := hp_
        have p0_ : r_ 23 = gv ((!(((!(nameS z_l_i.name)) || decide (4000 < (((z_l_i.text).length : Nat) : Int)))))) (.int .i64 (((i : Nat) : Int))) := p0_
        have p1_ : r_ 22 = .bool (((!(nameS z_l_i.name)) || decide (4000 < (((z_l_i.text).length : Nat) : Int)))) := p1_
        refine WL.gpure (gd := (!(((!(nameS z_l_i.name)) || decide (4000 < (((z_l_i.text).length : Nat) : Int)))))) (yl_f (d := 22) rfl p1_) (fun hg => R_gtr (a := ((i : Nat) : Int)) (b := 0) (gvT hg p0_) rfl) ?_
        refine WL.nil ?_
        exact ⟨rfl, _, _, rfl, (Hp.le_refl _), rfl, hS162⟩
      · intro r_ w167 h168 hl169 hS166 hb_ hp_
        obtain ⟨b0_, b1_, b2_, b3_, b4_, b5_, _⟩ := hb_
        obtain ⟨p0_, p1_, p2_, _⟩ := hp_
        have p0_ : r_ 24 = gv ((!(((!(nameS z_l_i.name)) || decide (4000 < (((z_l_i.text).length : Nat) : Int)))))) (.bool (decide (0 < ((i : Nat) : Int)))) := p0_
        have p1_ : r_ 22 = .bool (((!(nameS z_l_i.name)) || decide (4000 < (((z_l_i.text).length : Nat) : Int)))) := p1_
        have p2_ : r_ 22 = .bool (((!(nameS z_l_i.name)) || decide (4000 < (((z_l_i.text).length : Nat) : Int)))) := p2_
        refine WL.gpure (gd := (!(((!(nameS z_l_i.name)) || decide (4000 < (((z_l_i.text).length : Nat) : Int)))))) (yl_f (d := 22) rfl p2_) (fun hg => R_move (v := .bool (decide (0 < ((i : Nat) : Int)))) (gvT hg p0_)) ?_
        refine WL.nil ?_
        exact ⟨rfl, _, _, rfl, (Hp.le_refl _), rfl, hS166⟩
      · intro r_ w171 h172 hl173 hS170 hb_ hp_
        obtain ⟨b0_, b1_, b2_, b3_, b4_, b5_, _⟩ := hb_
        obtain ⟨p0_, _⟩ := hp_
        have p0_ : r_ 25 = gv ((!(((!(nameS z_l_i.name)) || decide (4000 < (((z_l_i.text).length : Nat) : Int)))))) (.bool (decide (0 < ((i : Nat) : Int)))) := p0_
        refine WL.gpure (gd := (((!(((!(nameS z_l_i.name)) || decide (4000 < (((z_l_i.text).length : Nat) : Int)))))) && (decide (0 < ((i : Nat) : Int))))) (ylg_t (d := 25) rfl p0_) (fun hg => R_move (v := .slice (l_a) (l).length (l_c)) b0_) ?_
        refine WL.nil ?_
        exact ⟨rfl, _, _, rfl, (Hp.le_refl _), rfl, hS170⟩
      · intro r_ w175 h176 hl177 hS174 hb_ hp_
        obtain ⟨b0_, b1_, b2_, b3_, b4_, b5_, _⟩ := hb_
        obtain ⟨p0_, _⟩ := hp_
        have p0_ : r_ 25 = gv ((!(((!(nameS z_l_i.name)) || decide (4000 < (((z_l_i.text).length : Nat) : Int)))))) (.bool (decide (0 < ((i : Nat) : Int)))) := p0_
        refine WL.gpure (gd := (((!(((!(nameS z_l_i.name)) || decide (4000 < (((z_l_i.text).length : Nat) : Int)))))) && (decide (0 < ((i : Nat) : Int))))) (ylg_t (d := 25) rfl p0_) (fun hg => R_move (v := .int .i64 (((i : Nat) : Int))) b1_) ?_
        refine WL.nil ?_
        exact ⟨rfl, _, _, rfl, (Hp.le_refl _), rfl, hS174⟩
      · intro r_ w179 h180 hl181 hS178 hb_ hp_
        obtain ⟨b0_, b1_, b2_, b3_, b4_, b5_, _⟩ := hb_
        obtain ⟨p0_, p1_, _⟩ := hp_
        have p0_ : r_ 27 = gv ((((!(((!(nameS z_l_i.name)) || decide (4000 < (((z_l_i.text).length : Nat) : Int)))))) && (decide (0 < ((i : Nat) : Int))))) (.int .i64 (((i : Nat) : Int))) := p0_
        have p1_ : r_ 25 = gv ((!(((!(nameS z_l_i.name)) || decide (4000 < (((z_l_i.text).length : Nat) : Int)))))) (.bool (decide (0 < ((i : Nat) : Int)))) := p1_
        refine WL.gpure (gd := (((!(((!(nameS z_l_i.name)) || decide (4000 < (((z_l_i.text).length : Nat) : Int)))))) && (decide (0 < ((i : Nat) : Int))))) (ylg_t (d := 25) rfl p1_) (fun hg => R_sub_i (a := ((i : Nat) : Int)) (b := 1) (gvT hg p0_) rfl (by have hg_ := ((b_and (b_not (b_or (b_not Iff.rfl) b_dec)) b_dec)).1 hg; omega)) ?_
        refine WL.nil ?_
        exact ⟨rfl, _, _, rfl, (Hp.le_refl _), rfl, hS178⟩
      · intro r_ w183 h184 hl185 hS182 hb_ hp_
        obtain ⟨b0_, b1_, b2_, b3_, b4_, b5_, _⟩ := hb_
        obtain ⟨p0_, p1_, p2_, _⟩ := hp_
        have p0_ : r_ 26 = gv ((((!(((!(nameS z_l_i.name)) || decide (4000 < (((z_l_i.text).length : Nat) : Int)))))) && (decide (0 < ((i : Nat) : Int))))) (.slice (l_a) (l).length (l_c)) := p0_
        have p1_ : r_ 28 = gv ((((!(((!(nameS z_l_i.name)) || decide (4000 < (((z_l_i.text).length : Nat) : Int)))))) && (decide (0 < ((i : Nat) : Int))))) (.int .i64 ((((i : Nat) : Int) - 1))) := p1_
        have p2_ : r_ 25 = gv ((!(((!(nameS z_l_i.name)) || decide (4000 < (((z_l_i.text).length : Nat) : Int)))))) (.bool (decide (0 < ((i : Nat) : Int)))) := p2_
        refine WL.gpure (gd := (((!(((!(nameS z_l_i.name)) || decide (4000 < (((z_l_i.text).length : Nat) : Int)))))) && (decide (0 < ((i : Nat) : Int))))) (ylg_t (d := 25) rfl p2_) (fun hg => R_indexAddrE (i := (((i : Nat) : Int) - 1)) (m := (i - 1)) ha92 (gvT hg p0_) (gvT hg p1_) Tryz.underlying30 (Tryz.sizeOf29 _) (by first | rfl | (have hg_ := ((b_and (b_not (b_or (b_not Iff.rfl) b_dec)) b_dec)).1 hg; omega)) (by have hg_ := ((b_and (b_not (b_or (b_not Iff.rfl) b_dec)) b_dec)).1 hg; omega)) ?_
        refine WL.nil ?_
        exact ⟨rfl, _, _, rfl, (Hp.le_refl _), rfl, hS182⟩
      · intro r_ w187 h188 hl189 hS186 hb_ hp_
        obtain ⟨b0_, b1_, b2_, b3_, b4_, b5_, _⟩ := hb_
        obtain ⟨p0_, p1_, _⟩ := hp_
        have p0_ : r_ 29 = gv ((((!(((!(nameS z_l_i.name)) || decide (4000 < (((z_l_i.text).length : Nat) : Int)))))) && (decide (0 < ((i : Nat) : Int))))) (.pointer (some ⟨b90, (o91 + (i - 1) * RFile.n), none⟩)) := p0_
        have p1_ : r_ 25 = gv ((!(((!(nameS z_l_i.name)) || decide (4000 < (((z_l_i.text).length : Nat) : Int)))))) (.bool (decide (0 < ((i : Nat) : Int)))) := p1_
        refine WL.gpure (gd := (((!(((!(nameS z_l_i.name)) || decide (4000 < (((z_l_i.text).length : Nat) : Int)))))) && (decide (0 < ((i : Nat) : Int))))) (ylg_t (d := 25) rfl p1_) (fun hg => R_fieldAddr (b := b90) (off := (o91 + (i - 1) * RFile.n)) (m := 0) (gvT hg p0_) (fun _ => by kernel_rfl)) ?_
        refine WL.nil ?_
        exact ⟨rfl, _, _, rfl, (Hp.le_refl _), rfl, hS186⟩
      · intro r_ w191 h192 hl193 hS190 hb_ hp_
        obtain ⟨b0_, b1_, b2_, b3_, b4_, b5_, _⟩ := hb_
        obtain ⟨p0_, p1_, _⟩ := hp_
        have p0_ : r_ 30 = gv ((((!(((!(nameS z_l_i.name)) || decide (4000 < (((z_l_i.text).length : Nat) : Int)))))) && (decide (0 < ((i : Nat) : Int))))) (.pointer (some ⟨b90, (o91 + (i - 1) * RFile.n), none⟩)) := p0_
        have p1_ : r_ 25 = gv ((!(((!(nameS z_l_i.name)) || decide (4000 < (((z_l_i.text).length : Nat) : Int)))))) (.bool (decide (0 < ((i : Nat) : Int)))) := p1_
        refine WL.gpure (gd := (((!(((!(nameS z_l_i.name)) || decide (4000 < (((z_l_i.text).length : Nat) : Int)))))) && (decide (0 < ((i : Nat) : Int))))) (ylg_t (d := 25) rfl p1_) (fun hg => R_loadC (v := .string (B (z_l_i_1.name))) hS190 (gvT hg p0_) ((hat94.mono hl193).sub 0 1 (cs' := [.string (B (z_l_i_1.name))]) rfl) Tryz.isAgg9 rfl) ?_
        refine WL.nil ?_
        exact ⟨rfl, _, _, rfl, (Hp.le_refl _), rfl, hS190⟩
      · intro r_ w195 h196 hl197 hS194 hb_ hp_
        obtain ⟨b0_, b1_, b2_, b3_, b4_, b5_, _⟩ := hb_
        obtain ⟨p0_, _⟩ := hp_
        have p0_ : r_ 25 = gv ((!(((!(nameS z_l_i.name)) || decide (4000 < (((z_l_i.text).length : Nat) : Int)))))) (.bool (decide (0 < ((i : Nat) : Int)))) := p0_
        refine WL.gpure (gd := (((!(((!(nameS z_l_i.name)) || decide (4000 < (((z_l_i.text).length : Nat) : Int)))))) && (decide (0 < ((i : Nat) : Int))))) (ylg_t (d := 25) rfl p0_) (fun hg => R_fieldAddr (b := w2.heap.size) (off := 0) (m := 0) b2_ (fun _ => by kernel_rfl)) ?_
        refine WL.nil ?_
        exact ⟨rfl, _, _, rfl, (Hp.le_refl _), rfl, hS194⟩
      · intro r_ w199 h200 hl201 hS198 hb_ hp_
        obtain ⟨b0_, b1_, b2_, b3_, b4_, b5_, _⟩ := hb_
        obtain ⟨p0_, p1_, _⟩ := hp_
        have p0_ : r_ 32 = gv ((((!(((!(nameS z_l_i.name)) || decide (4000 < (((z_l_i.text).length : Nat) : Int)))))) && (decide (0 < ((i : Nat) : Int))))) (.pointer (some ⟨w2.heap.size, 0, none⟩)) := p0_
        have p1_ : r_ 25 = gv ((!(((!(nameS z_l_i.name)) || decide (4000 < (((z_l_i.text).length : Nat) : Int)))))) (.bool (decide (0 < ((i : Nat) : Int)))) := p1_
        refine WL.gpure (gd := (((!(((!(nameS z_l_i.name)) || decide (4000 < (((z_l_i.text).length : Nat) : Int)))))) && (decide (0 < ((i : Nat) : Int))))) (ylg_t (d := 25) rfl p1_) (fun hg => R_load (v := .string (B (z_l_i.name))) (gvT hg p0_) (hS198.has (i := 0) rfl) (Tryz.isAgg9 _) rfl) ?_
        refine WL.nil ?_
        exact ⟨rfl, _, _, rfl, (Hp.le_refl _), rfl, hS198⟩
      · intro r_ w203 h204 hl205 hS202 hb_ hf_
        obtain ⟨b0_, b1_, b2_, b3_, b4_, b5_, _⟩ := hb_
        have q10_ := AF.get hf_ 10 (d := 22) rfl rfl
        have q13_ := AF.get hf_ 13 (d := 25) rfl rfl
        have q19_ := AF.get hf_ 19 (d := 31) rfl rfl
        have q21_ := AF.get hf_ 21 (d := 33) rfl rfl
        refine WL.frame [(0, .slice (l_a) (l).length (l_c)), (3, .int .i64 (((i : Nat) : Int))), (4, .pointer (some ⟨w2.heap.size, 0, none⟩)), (5, .slice (l_a) (l).length (l_c)), (6, .int .i64 ((((l).length : Nat) : Int))), (7, .int .i64 (((i : Nat) : Int))), (22, .bool (((!(nameS z_l_i.name)) || decide (4000 < (((z_l_i.text).length : Nat) : Int))))), (25, gv ((!(((!(nameS z_l_i.name)) || decide (4000 < (((z_l_i.text).length : Nat) : Int)))))) (.bool (decide (0 < ((i : Nat) : Int))))), (31, gv ((((!(((!(nameS z_l_i.name)) || decide (4000 < (((z_l_i.text).length : Nat) : Int)))))) && (decide (0 < ((i : Nat) : Int))))) (.string (B (z_l_i_1.name)))), (33, gv ((((!(((!(nameS z_l_i.name)) || decide (4000 < (((z_l_i.text).length : Nat) : Int)))))) && (decide (0 < ((i : Nat) : Int))))) (.string (B (z_l_i.name))))] ⟨b0_, b1_, b2_, b3_, b4_, b5_, q10_, q13_, q19_, q21_, trivial⟩ (fun r_ => ?_)
        refine WL.gpure (gd := (((!(((!(nameS z_l_i.name)) || decide (4000 < (((z_l_i.text).length : Nat) : Int)))))) && (decide (0 < ((i : Nat) : Int))))) (ylg_t (d := 25) rfl rfl) (fun hg => R_sgeq (a := z_l_i_1.name) (b := z_l_i.name) (gvT hg rfl) (gvT hg rfl)) ?_
        refine WL.gpure (gd := (!(((!(nameS z_l_i.name)) || decide (4000 < (((z_l_i.text).length : Nat) : Int)))))) (yl_f (d := 22) rfl rfl) (fun hg => R_and (cb := decide (0 < ((i : Nat) : Int))) (yb := (!(Op.bytesLess z_l_i_1.name z_l_i.name))) (gvT hg rfl) (gvA hg rfl) rfl) ?_
        refine WL.val1 (R_or (cb := ((!(nameS z_l_i.name)) || decide (4000 < (((z_l_i.text).length : Nat) : Int)))) (yb := (decide (0 < ((i : Nat) : Int)) && (!(Op.bytesLess z_l_i_1.name z_l_i.name)))) rfl rfl rfl) ?_
        refine WL.nil ?_
        refine then_normal ?_
        refine WC.condI (((¬ ((nameS z_l_i.name) = true) ∨ 4000 < (((z_l_i.text).length : Nat) : Int)) ∨ (0 < ((i : Nat) : Int) ∧ ¬ ((Op.bytesLess z_l_i_1.name z_l_i.name) = true)))) (b := (((!(nameS z_l_i.name)) || decide (4000 < (((z_l_i.text).length : Nat) : Int))) || (decide (0 < ((i : Nat) : Int)) && (!(Op.bytesLess z_l_i_1.name z_l_i.name))))) rfl (b_or (b_or (b_not Iff.rfl) b_dec) (b_and b_dec (b_not Iff.rfl))) (fun c1 => ?_) (fun c1 => ?_)
        · skip
          refine WC.seq ?_
          refine WC.region ?_
          refine WL.val1 (R_assign (v := .bool (false)) rfl) ?_
          refine WL.nil ?_
          refine then_normal ?_
          refine WC.ret ?_
          refine block_ret ?_
          refine then_ret ?_
          refine then_ret ?_
          refine block_ret ?_
          refine then_ret ?_
          refine top_ret (.bool (false)) (gives1 rfl rfl) ?_
          exact ⟨(by apply congrArg Value.bool; rcases c1 with c1 | c1; (rw [rightS, ← f2, rightF_no1 _ hz_l_i (c1.imp (by simp) (by omega))]; rfl); (rw [rightS, ← f2, rightF_no2 hz_l_i (by omega) hz_l_i_1 (by simpa using c1.2)]; rfl)), (hS202.pop.weaken_h (hl4.trans hl205))⟩
        · skip
          refine WC.skip ?_
          refine block_normal ?_
          refine then_normal ?_
          refine WC.region ?_
          refine WL.val1 (R_add_i (a := ((i : Nat) : Int)) (b := 1) rfl rfl (by omega)) ?_
          refine WL.val1 (R_move (v := .int .i64 ((((i : Nat) : Int) + 1))) rfl) ?_
          refine WL.nil ?_
          refine then_normal ?_
          exact ⟨(i + 1), ⟨rfl, rfl, rfl, (by first | rfl | (apply congrArg (Value.int .i64); omega) | simp), trivial⟩, ⟨h204, (hl4.trans hl205), hS202.pop, (by (try dsimp only); first | assumption | omega | simp), (by (try dsimp only); rw [← f2]; exact (rightF_yes hz_l_i (Decidable.byContradiction fun hh => c1 (.inl (.inl hh))) (by omega) (fun y h0 hy => by rw [hz_l_i_1] at hy; injection hy with hy; subst hy; exact Decidable.byContradiction fun hh => c1 (.inr ⟨by omega, hh⟩))).symm)⟩, (by first | (simp only []; omega) | (simp; omega))⟩
    · skip
      refine WC.exit ?_
      refine then_exit ?_
      refine then_exit ?_
      refine block_exit ?_
      refine then_normal ?_
      refine WC.seq ?_
      refine WC.region ?_
      refine WL.val1 (R_move (v := .slice (l_a) (l).length (l_c)) rfl) ?_
      refine WL.val1 (R_len_slice (n := (l).length) rfl Tryz.underlying30) ?_
      refine WL.val1 (R_leq (a := (((l).length : Nat) : Int)) (b := 32) rfl rfl) ?_
      refine WL.val1 (R_assign (v := .bool (decide ((((l).length : Nat) : Int) ≤ 32))) rfl) ?_
      refine WL.nil ?_
      refine then_normal ?_
      refine WC.ret ?_
      refine top_ret (.bool (decide ((((l).length : Nat) : Int) ≤ 32))) (gives1 rfl rfl) ?_
      exact ⟨(by apply congrArg Value.bool; rw [rightS, ← f2, rightF_end _ (by omega), Bool.true_and]; exact decide_eq_decide.2 (by omega)), (hS1.weaken_h hl4)⟩
set_option maxHeartbeats 400000 in
theorem ref03_Files (l : List File) (l_a : Option Addr) (l_c : Nat) (hsz : SzG l) : PureC GG Tryz.prog 35 (fun h => Sl RFile h l l_a l_c) [.slice (l_a) (l).length (l_c)] (.string (B (filesS l))) := by
  intro Γ h L w hpre hS
  have sl_l := hpre
  have hl := hsz.1
  refine Ret.body Tryz.func35 rfl Tryz.ntmps35 (Nat.le_of_ble_eq_true rfl) ?_
  refine WC.seq ?_
  refine WC.region ?_
  refine WL.val1 (R_assign (v := .string (B (([] : Str)))) rfl) ?_
  refine WL.nil ?_
  refine then_normal ?_
  refine WC.seq ?_
  refine WC.region ?_
  refine WL.val1 (R_assign (v := .string (B (([] : Str)))) rfl) ?_
  refine WL.nil ?_
  refine then_normal ?_
  refine WC.seq ?_
  refine WC.seq ?_
  refine WC.region ?_
  refine WL.val1 (R_assign (v := .int .i64 (0)) rfl) ?_
  refine WL.nil ?_
  refine then_normal ?_
  refine WC.block ?_
  refine WC.loopL (σ := Nat × Str)
    (fun (q_ : Nat × Str) => (fun (i : Nat) (out : Str) => [(0, .slice (l_a) (l).length (l_c)), (3, .string (B (out))), (4, .int .i64 (((i : Nat) : Int)))]) (q_.1) (q_.2))
    (fun (q_ : Nat × Str) (w_ : World) => (fun (i : Nat) (out : Str) => ∃ h3 : Hp, h.le h3 ∧ St Γ h3 (L) w_ ∧ (i ≤ l.length) ∧ (out ++ filesS (l.drop i) = filesS l) ∧ (out.length ≤ i * 300000)) (q_.1) (q_.2))
    (fun (q_ : Nat × Str) => (fun (i : Nat) (out : Str) => l.length - i) (q_.1) (q_.2)) (0, []) ?_ ?_ ?_
  · exact ⟨rfl, (by first | rfl | (apply congrArg (Value.int .i64); omega) | simp), (by first | rfl | (apply congrArg (Value.int .i64); omega) | simp), trivial⟩
  · exact ⟨h, Hp.le_refl _, hS, (by first | assumption | omega | simp), (by rfl), (by first | assumption | omega | simp)⟩
  · rintro ⟨i, out⟩ r5 w2 ⟨h3, hl4, hS1, f1, f2, f3⟩
    try dsimp only at f1 f2 f3
    refine WC.seq ?_
    refine WC.seq ?_
    refine WC.region ?_
    refine WL.val1 (R_move (v := .int .i64 (((i : Nat) : Int))) rfl) ?_
    refine WL.val1 (R_move (v := .slice (l_a) (l).length (l_c)) rfl) ?_
    refine WL.val1 (R_len_slice (n := (l).length) rfl Tryz.underlying30) ?_
    refine WL.val1 (R_lss (a := ((i : Nat) : Int)) (b := (((l).length : Nat) : Int)) rfl rfl) ?_
    refine WL.nil ?_
    refine then_normal ?_
    refine WC.condP (((i : Nat) : Int) < (((l).length : Nat) : Int)) rfl (fun c0 => ?_) (fun c0 => ?_)
    · skip
      refine WC.skip ?_
      refine then_normal ?_
      refine WC.seq ?_
      refine WC.block ?_
      obtain ⟨z_l_i, hz_l_i⟩ : ∃ z, (l)[i]? = some z := ⟨_, List.getElem?_eq_getElem (by first | omega | (have q1 := hsz.2 z_l_i (List.mem_of_getElem? hz_l_i); have q2 := putS_len z_l_i.name (by omega); have q3 := putS_len z_l_i.text (by omega); (try simp only [List.length_append]); omega))⟩
      obtain ⟨b22, o23, cs27, ha24, hr25, hat26⟩ := (sl_l.mono hl4).2 i z_l_i hz_l_i
      subst hr25
      refine WC.draw 14 [(0, .slice (l_a) (l).length (l_c)), (3, .string (B (out))), (4, .int .i64 (((i : Nat) : Int)))] [fun _ v => v = .string (B (out)), fun _ v => v = .slice (l_a) (l).length (l_c), fun _ v => v = .int .i64 (((i : Nat) : Int)), fun _ v => v = .pointer (some ⟨b22, (o23 + i * RFile.n), none⟩), fun _ v => v = .pointer (some ⟨b22, (o23 + i * RFile.n), none⟩), fun _ v => v = .string (B (z_l_i.name)), fun _ v => v = .string (B (putS z_l_i.name)), fun _ v => v = .slice (l_a) (l).length (l_c), fun _ v => v = .int .i64 (((i : Nat) : Int)), fun _ v => v = .pointer (some ⟨b22, (o23 + i * RFile.n), none⟩), fun _ v => v = .pointer (some ⟨b22, (o23 + i * RFile.n) + 1, none⟩), fun _ v => v = .string (B (z_l_i.text)), fun _ v => v = .string (B (putS z_l_i.text)), fun _ v => v = .string (B ((putS z_l_i.name ++ putS z_l_i.text)))] hS1 (by kernel_rfl) (by kernel_rfl) (MonoFs.pure (MonoFs.pure (MonoFs.pure (MonoFs.pure (MonoFs.pure (MonoFs.pure (MonoFs.pure (MonoFs.pure (MonoFs.pure (MonoFs.pure (MonoFs.pure (MonoFs.pure (MonoFs.pure (MonoFs.pure MonoFs.nil)))))))))))))) ⟨rfl, rfl, rfl, trivial⟩ ⟨?_, ?_, ?_, ?_, ?_, ?_, ?_, ?_, ?_, ?_, ?_, ?_, ?_, ?_, trivial⟩ ?_
      · intro r_ w73 h74 hl75 hS72 hb_ hp_
        obtain ⟨b0_, b1_, b2_, _⟩ := hb_
        refine WL.val1 (R_move (v := .string (B (out))) b1_) ?_
        refine WL.nil ?_
        exact ⟨rfl, _, _, rfl, (Hp.le_refl _), rfl, hS72⟩
      · intro r_ w77 h78 hl79 hS76 hb_ hp_
        obtain ⟨b0_, b1_, b2_, _⟩ := hb_
        refine WL.val1 (R_move (v := .slice (l_a) (l).length (l_c)) b0_) ?_
        refine WL.nil ?_
        exact ⟨rfl, _, _, rfl, (Hp.le_refl _), rfl, hS76⟩
      · intro r_ w81 h82 hl83 hS80 hb_ hp_
        obtain ⟨b0_, b1_, b2_, _⟩ := hb_
        refine WL.val1 (R_move (v := .int .i64 (((i : Nat) : Int))) b2_) ?_
        refine WL.nil ?_
        exact ⟨rfl, _, _, rfl, (Hp.le_refl _), rfl, hS80⟩
      · intro r_ w85 h86 hl87 hS84 hb_ hp_
        obtain ⟨b0_, b1_, b2_, _⟩ := hb_
        obtain ⟨p0_, p1_, _⟩ := hp_
        have p0_ : r_ 12 = .slice (l_a) (l).length (l_c) := p0_
        have p1_ : r_ 13 = .int .i64 (((i : Nat) : Int)) := p1_
        refine WL.val1 (R_indexAddrE (i := ((i : Nat) : Int)) (m := i) ha24 p0_ p1_ Tryz.underlying30 (Tryz.sizeOf29 _) (by first | rfl | (first | omega | (have q1 := hsz.2 z_l_i (List.mem_of_getElem? hz_l_i); have q2 := putS_len z_l_i.name (by omega); have q3 := putS_len z_l_i.text (by omega); (try simp only [List.length_append]); omega))) (by first | omega | (have q1 := hsz.2 z_l_i (List.mem_of_getElem? hz_l_i); have q2 := putS_len z_l_i.name (by omega); have q3 := putS_len z_l_i.text (by omega); (try simp only [List.length_append]); omega))) ?_
        refine WL.nil ?_
        exact ⟨rfl, _, _, rfl, (Hp.le_refl _), rfl, hS84⟩
      · intro r_ w89 h90 hl91 hS88 hb_ hp_
        obtain ⟨b0_, b1_, b2_, _⟩ := hb_
        obtain ⟨p0_, _⟩ := hp_
        have p0_ : r_ 14 = .pointer (some ⟨b22, (o23 + i * RFile.n), none⟩) := p0_
        refine WL.val1 (R_fieldAddr (b := b22) (off := (o23 + i * RFile.n)) (m := 0) p0_ (fun _ => by kernel_rfl)) ?_
        refine WL.nil ?_
        exact ⟨rfl, _, _, rfl, (Hp.le_refl _), rfl, hS88⟩
      · intro r_ w93 h94 hl95 hS92 hb_ hp_
        obtain ⟨b0_, b1_, b2_, _⟩ := hb_
        obtain ⟨p0_, _⟩ := hp_
        have p0_ : r_ 15 = .pointer (some ⟨b22, (o23 + i * RFile.n), none⟩) := p0_
        refine WL.val1 (R_loadC (v := .string (B (z_l_i.name))) hS92 p0_ ((hat26.mono hl95).sub 0 1 (cs' := [.string (B (z_l_i.name))]) rfl) Tryz.isAgg9 rfl) ?_
        refine WL.nil ?_
        exact ⟨rfl, _, _, rfl, (Hp.le_refl _), rfl, hS92⟩
      · intro r_ w97 h98 hl99 hS96 hb_ hp_
        obtain ⟨b0_, b1_, b2_, _⟩ := hb_
        obtain ⟨p0_, _⟩ := hp_
        have p0_ : r_ 16 = .string (B (z_l_i.name)) := p0_
        refine S_callP (vs := [.string (B (z_l_i.name))]) hS96 Tryz.call51 (hmap1 p0_) (ref03_Put (z_l_i.name) (by first | omega | (have q1 := hsz.2 z_l_i (List.mem_of_getElem? hz_l_i); have q2 := putS_len z_l_i.name (by omega); have q3 := putS_len z_l_i.text (by omega); (try simp only [List.length_append]); omega))) trivial ?_
        intro w101 hS100
        refine WL.nil ?_
        exact ⟨rfl, _, _, rfl, (Hp.le_refl _), rfl, hS100⟩
      · intro r_ w103 h104 hl105 hS102 hb_ hp_
        obtain ⟨b0_, b1_, b2_, _⟩ := hb_
        refine WL.val1 (R_move (v := .slice (l_a) (l).length (l_c)) b0_) ?_
        refine WL.nil ?_
        exact ⟨rfl, _, _, rfl, (Hp.le_refl _), rfl, hS102⟩
      · intro r_ w107 h108 hl109 hS106 hb_ hp_
        obtain ⟨b0_, b1_, b2_, _⟩ := hb_
        refine WL.val1 (R_move (v := .int .i64 (((i : Nat) : Int))) b2_) ?_
        refine WL.nil ?_
        exact ⟨rfl, _, _, rfl, (Hp.le_refl _), rfl, hS106⟩
      · intro r_ w111 h112 hl113 hS110 hb_ hp_
        obtain ⟨b0_, b1_, b2_, _⟩ := hb_
        obtain ⟨p0_, p1_, _⟩ := hp_
        have p0_ : r_ 18 = .slice (l_a) (l).length (l_c) := p0_
        have p1_ : r_ 19 = .int .i64 (((i : Nat) : Int)) := p1_
        refine WL.val1 (R_indexAddrE (i := ((i : Nat) : Int)) (m := i) ha24 p0_ p1_ Tryz.underlying30 (Tryz.sizeOf29 _) (by first | rfl | (first | omega | (have q1 := hsz.2 z_l_i (List.mem_of_getElem? hz_l_i); have q2 := putS_len z_l_i.name (by omega); have q3 := putS_len z_l_i.text (by omega); (try simp only [List.length_append]); omega))) (by first | omega | (have q1 := hsz.2 z_l_i (List.mem_of_getElem? hz_l_i); have q2 := putS_len z_l_i.name (by omega); have q3 := putS_len z_l_i.text (by omega); (try simp only [List.length_append]); omega))) ?_
        refine WL.nil ?_
        exact ⟨rfl, _, _, rfl, (Hp.le_refl _), rfl, hS110⟩
      · intro r_ w115 h116 hl117 hS114 hb_ hp_
        obtain ⟨b0_, b1_, b2_, _⟩ := hb_
        obtain ⟨p0_, _⟩ := hp_
        have p0_ : r_ 20 = .pointer (some ⟨b22, (o23 + i * RFile.n), none⟩) := p0_
        refine WL.val1 (R_fieldAddr (b := b22) (off := (o23 + i * RFile.n)) (m := 1) p0_ (fun _ => by kernel_rfl)) ?_
        refine WL.nil ?_
        exact ⟨rfl, _, _, rfl, (Hp.le_refl _), rfl, hS114⟩
      · intro r_ w119 h120 hl121 hS118 hb_ hp_
        obtain ⟨b0_, b1_, b2_, _⟩ := hb_
        obtain ⟨p0_, _⟩ := hp_
        have p0_ : r_ 21 = .pointer (some ⟨b22, (o23 + i * RFile.n) + 1, none⟩) := p0_
        refine WL.val1 (R_loadC (v := .string (B (z_l_i.text))) hS118 p0_ ((hat26.mono hl121).sub 1 1 (cs' := [.string (B (z_l_i.text))]) rfl) Tryz.isAgg9 rfl) ?_
        refine WL.nil ?_
        exact ⟨rfl, _, _, rfl, (Hp.le_refl _), rfl, hS118⟩
      · intro r_ w123 h124 hl125 hS122 hb_ hp_
        obtain ⟨b0_, b1_, b2_, _⟩ := hb_
        obtain ⟨p0_, p1_, _⟩ := hp_
        have p0_ : r_ 22 = .string (B (z_l_i.text)) := p0_
        have p1_ : r_ 17 = .string (B (putS z_l_i.name)) := p1_
        refine S_callP (vs := [.string (B (z_l_i.text))]) hS122 Tryz.call51 (hmap1 p0_) (ref03_Put (z_l_i.text) (by first | omega | (have q1 := hsz.2 z_l_i (List.mem_of_getElem? hz_l_i); have q2 := putS_len z_l_i.name (by omega); have q3 := putS_len z_l_i.text (by omega); (try simp only [List.length_append]); omega))) trivial ?_
        intro w127 hS126
        refine WL.nil ?_
        exact ⟨rfl, _, _, rfl, (Hp.le_refl _), rfl, hS126⟩
      · intro r_ w129 h130 hl131 hS128 hb_ hp_
        obtain ⟨b0_, b1_, b2_, _⟩ := hb_
        obtain ⟨p0_, p1_, _⟩ := hp_
        have p0_ : r_ 17 = .string (B (putS z_l_i.name)) := p0_
        have p1_ : r_ 23 = .string (B (putS z_l_i.text)) := p1_
        refine WL.val1 (R_sadd (a := putS z_l_i.name) (b := putS z_l_i.text) p0_ p1_ (by (try simp only [List.length_append, List.length_cons, List.length_nil]); first | omega | (have q1 := hsz.2 z_l_i (List.mem_of_getElem? hz_l_i); have q2 := putS_len z_l_i.name (by omega); have q3 := putS_len z_l_i.text (by omega); (try simp only [List.length_append]); omega))) ?_
        refine WL.nil ?_
        exact ⟨rfl, _, _, rfl, (Hp.le_refl _), rfl, hS128⟩
      · intro r_ w133 h134 hl135 hS132 hb_ hf_
        obtain ⟨b0_, b1_, b2_, _⟩ := hb_
        have q0_ := AF.get hf_ 0 (d := 11) rfl rfl
        have q13_ := AF.get hf_ 13 (d := 24) rfl rfl
        refine WL.frame [(0, .slice (l_a) (l).length (l_c)), (3, .string (B (out))), (4, .int .i64 (((i : Nat) : Int))), (11, .string (B (out))), (24, .string (B ((putS z_l_i.name ++ putS z_l_i.text))))] ⟨b0_, b1_, b2_, q0_, q13_, trivial⟩ (fun r_ => ?_)
        refine WL.val1 (R_sadd (a := out) (b := (putS z_l_i.name ++ putS z_l_i.text)) rfl rfl (by (try simp only [List.length_append, List.length_cons, List.length_nil]); first | omega | (have q1 := hsz.2 z_l_i (List.mem_of_getElem? hz_l_i); have q2 := putS_len z_l_i.name (by omega); have q3 := putS_len z_l_i.text (by omega); (try simp only [List.length_append]); omega))) ?_
        refine WL.val1 (R_assign (v := .string (B ((out ++ (putS z_l_i.name ++ putS z_l_i.text))))) rfl) ?_
        refine WL.nil ?_
        refine block_normal ?_
        refine then_normal ?_
        refine WC.region ?_
        refine WL.val1 (R_move (v := .int .i64 (((i : Nat) : Int))) rfl) ?_
        refine WL.val1 (R_add_i (a := ((i : Nat) : Int)) (b := 1) rfl rfl (by first | omega | (have q1 := hsz.2 z_l_i (List.mem_of_getElem? hz_l_i); have q2 := putS_len z_l_i.name (by omega); have q3 := putS_len z_l_i.text (by omega); (try simp only [List.length_append]); omega))) ?_
        refine WL.val1 (R_assign (v := .int .i64 ((((i : Nat) : Int) + 1))) rfl) ?_
        refine WL.nil ?_
        refine then_normal ?_
        exact ⟨(i + 1, (out ++ (putS z_l_i.name ++ putS z_l_i.text))), ⟨rfl, (by first | rfl | (apply congrArg (Value.int .i64); omega) | simp), (by first | rfl | (apply congrArg (Value.int .i64); omega) | simp), trivial⟩, ⟨h134, (hl4.trans hl135), hS132, (by (try dsimp only); first | assumption | omega | simp), (by (try dsimp only); rw [← f2, filesS_step hz_l_i]; (try simp only [List.append_assoc])), (by (try dsimp only); first | omega | (have q1 := hsz.2 z_l_i (List.mem_of_getElem? hz_l_i); have q2 := putS_len z_l_i.name (by omega); have q3 := putS_len z_l_i.text (by omega); (try simp only [List.length_append]); omega))⟩, (by first | (simp only []; omega) | (simp; omega))⟩
    · skip
      refine WC.exit ?_
      refine then_exit ?_
      refine then_exit ?_
      refine block_exit ?_
      refine then_normal ?_
      refine WC.seq ?_
      refine WC.region ?_
      refine WL.val1 (R_move (v := .string (B (out))) rfl) ?_
      refine WL.val1 (R_assign (v := .string (B (out))) rfl) ?_
      refine WL.nil ?_
      refine then_normal ?_
      refine WC.ret ?_
      refine top_ret (.string (B (out))) (gives1 rfl rfl) ?_
      exact ⟨(by apply congrArg Value.string; apply congrArg B; rw [← f2, drop_nil (by omega), filesS_nil, List.append_nil]), (hS1.weaken_h hl4)⟩
set_option maxHeartbeats 400000 in
theorem wire_Files (l : List File) (l_a : Option Addr) (l_c : Nat) (hsz : SzG l) : PureC GG Tryz.prog 24 (fun h => Sl RFile h l l_a l_c) [.slice (l_a) (l).length (l_c)] (.string (B (filesS l))) := by
  refine PureC.fresh ?_
  intro Γ h L w hpre hL hM hin hS
  have sl_l := hpre
  have hl := hsz.1
  refine Ret.body Tryz.func24 rfl Tryz.ntmps24 (Nat.le_of_ble_eq_true rfl) ?_
  refine WC.seq ?_
  refine WC.region ?_
  refine WL.val1 (R_assign (v := .string (B (([] : Str)))) rfl) ?_
  refine WL.nil ?_
  refine then_normal ?_
  refine WC.seq ?_
  refine WC.region ?_
  refine S_alloc hS Tryz.zeroValue88 ?_
  intro w2 hS1
  refine WL.nil ?_
  refine then_normal ?_
  refine WC.seq ?_
  refine WC.seq ?_
  refine WC.region ?_
  refine WL.val1 (R_move (v := .slice (l_a) (l).length (l_c)) rfl) ?_
  refine WL.val1 (R_len_slice (n := (l).length) rfl Tryz.underlying30) ?_
  refine WL.val1 (R_move (v := .int .i64 (0)) rfl) ?_
  refine WL.nil ?_
  refine then_normal ?_
  refine WC.block ?_
  have hS3 := hS1.growNil 5 Rby h
  refine WC.loopL (σ := Nat × (List UInt8) × (Option Addr) × Nat × Value)
    (fun (q_ : Nat × (List UInt8) × (Option Addr) × Nat × Value) => (fun (i : Nat) (out : List UInt8) (out_a : Option Addr) (out_c : Nat) (p : Value) => [(3, .pointer (some ⟨w.heap.size, 0, none⟩)), (6, .slice (l_a) (l).length (l_c)), (7, .int .i64 ((((l).length : Nat) : Int))), (8, .int .i64 (((i : Nat) : Int)))]) (q_.1) (q_.2.1) (q_.2.2.1) (q_.2.2.2.1) (q_.2.2.2.2))
    (fun (q_ : Nat × (List UInt8) × (Option Addr) × Nat × Value) (w_ : World) => (fun (i : Nat) (out : List UInt8) (out_a : Option Addr) (out_c : Nat) (p : Value) => ∃ h6 : Hp, h.le h6 ∧ St Γ h6 (grow 5 Rby h6 (out) (out_a) (out_c) :: row (w.heap.size) [p, .slice (out_a) (out).length (out_c)] 88 :: L) w_ ∧ (i ≤ l.length) ∧ (out ++ filesS (l.drop i) = filesS l) ∧ (out.length ≤ i * 300000) ∧ (p = .pointer none ∨ p = .pointer (some ⟨w.heap.size, 0, none⟩))) (q_.1) (q_.2.1) (q_.2.2.1) (q_.2.2.2.1) (q_.2.2.2.2))
    (fun (q_ : Nat × (List UInt8) × (Option Addr) × Nat × Value) => (fun (i : Nat) (out : List UInt8) (out_a : Option Addr) (out_c : Nat) (p : Value) => l.length - i) (q_.1) (q_.2.1) (q_.2.2.1) (q_.2.2.2.1) (q_.2.2.2.2)) (0, ([] : List UInt8), none, 0, .pointer none) ?_ ?_ ?_
  · exact ⟨rfl, rfl, rfl, (by first | rfl | (apply congrArg (Value.int .i64); omega) | simp), trivial⟩
  · exact ⟨h, Hp.le_refl _, hS3, (by first | assumption | omega | simp), (by rfl), (by first | assumption | omega | simp), (by exact .inl rfl)⟩
  · rintro ⟨i, out, out_a, out_c, p⟩ r8 w5 ⟨h6, hl7, hS4, f1, f2, f3, hp⟩
    try dsimp only at f1 f2 f3 hp
    refine WC.seq ?_
    refine WC.region ?_
    refine WL.val1 (R_lss (a := ((i : Nat) : Int)) (b := (((l).length : Nat) : Int)) rfl rfl) ?_
    refine WL.nil ?_
    refine then_normal ?_
    refine WC.seq ?_
    refine WC.condP (((i : Nat) : Int) < (((l).length : Nat) : Int)) rfl (fun c0 => ?_) (fun c0 => ?_)
    · skip
      refine WC.skip ?_
      refine then_normal ?_
      refine WC.seq ?_
      refine WC.block ?_
      refine WC.seq ?_
      refine WC.region ?_
      obtain ⟨z_l_i, hz_l_i⟩ : ∃ z, (l)[i]? = some z := ⟨_, List.getElem?_eq_getElem (by first | omega | (have q1 := hsz.2 z_l_i (List.mem_of_getElem? hz_l_i); have q2 := putS_len z_l_i.name (by omega); have q3 := putS_len z_l_i.text (by omega); (try simp only [List.length_append]); omega))⟩
      obtain ⟨b9, o10, cs14, ha11, hr12, hat13⟩ := (sl_l.mono hl7).2 i z_l_i hz_l_i
      subst hr12
      refine WL.val1 (R_indexAddrE (i := ((i : Nat) : Int)) (m := i) ha11 rfl rfl Tryz.underlying30 (Tryz.sizeOf29 _) (by first | rfl | (first | omega | (have q1 := hsz.2 z_l_i (List.mem_of_getElem? hz_l_i); have q2 := putS_len z_l_i.name (by omega); have q3 := putS_len z_l_i.text (by omega); (try simp only [List.length_append]); omega))) (by first | omega | (have q1 := hsz.2 z_l_i (List.mem_of_getElem? hz_l_i); have q2 := putS_len z_l_i.name (by omega); have q3 := putS_len z_l_i.text (by omega); (try simp only [List.length_append]); omega))) ?_
      refine WL.val1 (R_loadCA (cs := [.string (B (z_l_i.name)), .string (B (z_l_i.text))]) hS4 rfl hat13 Tryz.isAgg29 Tryz.sizeOf29 rfl) ?_
      refine S_alloc hS4 Tryz.zeroValue29 ?_
      intro w16 hS15
      refine S_store (i := 0) (b := w5.heap.size) (l := [.string (B (([] : Str))), .string (B (([] : Str)))]) (l' := [.string (B (z_l_i.name)), .string (B (z_l_i.text))]) (vs := [.string (B (z_l_i.name)), .string (B (z_l_i.text))]) (v := .agg #[.string (B (z_l_i.name)), .string (B (z_l_i.text))]) hS15 rfl rfl rfl Tryz.sizeOf29 rfl rfl rfl (Nat.le_of_ble_eq_true rfl) rfl rfl ?_
      intro w18 hS17
      refine WL.nil ?_
      refine then_normal ?_
      refine WC.draw 5 [(3, .pointer (some ⟨w.heap.size, 0, none⟩)), (5, .pointer (some ⟨w5.heap.size, 0, none⟩)), (6, .slice (l_a) (l).length (l_c)), (7, .int .i64 ((((l).length : Nat) : Int))), (8, .int .i64 (((i : Nat) : Int)))] [fun _ v => v = .pointer (some ⟨w5.heap.size, 0, none⟩), fun _ v => v = .string (B (z_l_i.name)), fun _ v => v = .string (B (putS z_l_i.name)), fun _ v => v = .pointer (some ⟨w5.heap.size, 1, none⟩), fun _ v => v = .string (B (z_l_i.text))] hS17 (by kernel_rfl) (by kernel_rfl) (MonoFs.pure (MonoFs.pure (MonoFs.pure (MonoFs.pure (MonoFs.pure MonoFs.nil))))) ⟨rfl, rfl, rfl, rfl, rfl, trivial⟩ ⟨?_, ?_, ?_, ?_, ?_, trivial⟩ ?_
      · intro r_ w42 h43 hl44 hS41 hb_ hp_
        obtain ⟨b0_, b1_, b2_, b3_, b4_, _⟩ := hb_
        refine WL.val1 (R_fieldAddr (b := w5.heap.size) (off := 0) (m := 0) b1_ (fun _ => by kernel_rfl)) ?_
        refine WL.nil ?_
        exact ⟨rfl, _, _, rfl, (Hp.le_refl _), rfl, hS41⟩
      · intro r_ w46 h47 hl48 hS45 hb_ hp_
        obtain ⟨b0_, b1_, b2_, b3_, b4_, _⟩ := hb_
        obtain ⟨p0_, _⟩ := hp_
        have p0_ : r_ 12 = .pointer (some ⟨w5.heap.size, 0, none⟩) := p0_
        refine WL.val1 (R_load (v := .string (B (z_l_i.name))) p0_ (hS45.has (i := 0) rfl) (Tryz.isAgg9 _) rfl) ?_
        refine WL.nil ?_
        exact ⟨rfl, _, _, rfl, (Hp.le_refl _), rfl, hS45⟩
      · intro r_ w50 h51 hl52 hS49 hb_ hp_
        obtain ⟨b0_, b1_, b2_, b3_, b4_, _⟩ := hb_
        obtain ⟨p0_, _⟩ := hp_
        have p0_ : r_ 13 = .string (B (z_l_i.name)) := p0_
        refine S_callP (vs := [.string (B (z_l_i.name))]) hS49 Tryz.call46 (hmap1 p0_) (wire_Put (z_l_i.name) (by first | assumption | omega | (first | omega | (have q1 := hsz.2 z_l_i (List.mem_of_getElem? hz_l_i); have q2 := putS_len z_l_i.name (by omega); have q3 := putS_len z_l_i.text (by omega); (try simp only [List.length_append]); omega)))) trivial ?_
        intro w54 hS53
        refine WL.nil ?_
        exact ⟨rfl, _, _, rfl, (Hp.le_refl _), rfl, hS53⟩
      · intro r_ w56 h57 hl58 hS55 hb_ hp_
        obtain ⟨b0_, b1_, b2_, b3_, b4_, _⟩ := hb_
        refine WL.val1 (R_fieldAddr (b := w5.heap.size) (off := 0) (m := 1) b1_ (fun _ => by kernel_rfl)) ?_
        refine WL.nil ?_
        exact ⟨rfl, _, _, rfl, (Hp.le_refl _), rfl, hS55⟩
      · intro r_ w60 h61 hl62 hS59 hb_ hp_
        obtain ⟨b0_, b1_, b2_, b3_, b4_, _⟩ := hb_
        obtain ⟨p0_, _⟩ := hp_
        have p0_ : r_ 15 = .pointer (some ⟨w5.heap.size, 1, none⟩) := p0_
        refine WL.val1 (R_load (v := .string (B (z_l_i.text))) p0_ (hS59.has (i := 0) rfl) (Tryz.isAgg9 _) rfl) ?_
        refine WL.nil ?_
        exact ⟨rfl, _, _, rfl, (Hp.le_refl _), rfl, hS59⟩
      · intro r_ w64 h65 hl66 hS63 hb_ hf_
        obtain ⟨b0_, b1_, b2_, b3_, b4_, _⟩ := hb_
        have q2_ := AF.get hf_ 2 (d := 14) rfl rfl
        have q4_ := AF.get hf_ 4 (d := 16) rfl rfl
        refine WL.frame [(3, .pointer (some ⟨w.heap.size, 0, none⟩)), (5, .pointer (some ⟨w5.heap.size, 0, none⟩)), (6, .slice (l_a) (l).length (l_c)), (7, .int .i64 ((((l).length : Nat) : Int))), (8, .int .i64 (((i : Nat) : Int))), (14, .string (B (putS z_l_i.name))), (16, .string (B (z_l_i.text)))] ⟨b0_, b1_, b2_, b3_, b4_, q2_, q4_, trivial⟩ (fun r_ => ?_)
        refine S_callP (vs := [.string (B (z_l_i.text))]) hS63 Tryz.call46 rfl (wire_Put (z_l_i.text) (by first | assumption | omega | (first | omega | (have q1 := hsz.2 z_l_i (List.mem_of_getElem? hz_l_i); have q2 := putS_len z_l_i.name (by omega); have q3 := putS_len z_l_i.text (by omega); (try simp only [List.length_append]); omega)))) trivial ?_
        intro w68 hS67
        refine WL.val1 (R_sadd (a := putS z_l_i.name) (b := putS z_l_i.text) rfl rfl (by (try simp only [List.length_append, List.length_cons, List.length_nil]); first | omega | (have q1 := hsz.2 z_l_i (List.mem_of_getElem? hz_l_i); have q2 := putS_len z_l_i.name (by omega); have q3 := putS_len z_l_i.text (by omega); (try simp only [List.length_append]); omega))) ?_
        have hS71 := hS67.growMono (i := 1) rfl hl66
        have hS72 : St Γ h65 (grow 5 Rby h65 (out) (out_a) (out_c) :: row (w5.heap.size) [.string (B (z_l_i.name)), .string (B (z_l_i.text))] 29 :: emp :: row (w.heap.size) [p, .slice (out_a) (out).length (out_c)] 88 :: L) w68 := hS71.front (i := 1) rfl
        have hS73 : St Γ h65 (row (w.heap.size) [p, .slice (out_a) (out).length (out_c)] 88 :: grow 5 Rby h65 (out) (out_a) (out_c) :: row (w5.heap.size) [.string (B (z_l_i.name)), .string (B (z_l_i.text))] 29 :: emp :: emp :: L) w68 := hS72.front (i := 3) rfl
        refine S_callL (vs := [.pointer (some ⟨w.heap.size, 0, none⟩), .string (B ((putS z_l_i.name ++ putS z_l_i.text)))]) (A := fun hh_ => [row (w.heap.size) [p, .slice (out_a) (out).length (out_c)] 88, grow 5 Rby hh_ (out) (out_a) (out_c)]) (L := row (w5.heap.size) [.string (B (z_l_i.name)), .string (B (z_l_i.text))] 29 :: emp :: emp :: L) hS73 Tryz.call41 rfl (bld_Write (w.heap.size) (p) (out) (out_a) (out_c) ((putS z_l_i.name ++ putS z_l_i.text)) (by first | assumption | omega | (first | omega | (have q1 := hsz.2 z_l_i (List.mem_of_getElem? hz_l_i); have q2 := putS_len z_l_i.name (by omega); have q3 := putS_len z_l_i.text (by omega); (try simp only [List.length_append]); omega))) (by first | assumption | omega | (first | omega | (have q1 := hsz.2 z_l_i (List.mem_of_getElem? hz_l_i); have q2 := putS_len z_l_i.name (by omega); have q3 := putS_len z_l_i.text (by omega); (try simp only [List.length_append]); omega)))) trivial ?_
        intro h74 A76 v77 w70 hl75 hp78 hS69
        obtain ⟨a279, c280, rfl, rfl⟩ := hp78
        have hS69 : St Γ h74 (row (w.heap.size) [.pointer (some ⟨w.heap.size, 0, none⟩), .slice (a279) ((out ++ ((putS z_l_i.name ++ putS z_l_i.text)))).length (c280)] 88 :: grow 5 Rby h74 ((out ++ ((putS z_l_i.name ++ putS z_l_i.text)))) (a279) (c280) :: row (w5.heap.size) [.string (B (z_l_i.name)), .string (B (z_l_i.text))] 29 :: emp :: emp :: L) w70 := hS69
        have hS81 : St Γ h74 (grow 5 Rby h74 ((out ++ ((putS z_l_i.name ++ putS z_l_i.text)))) (a279) (c280) :: row (w5.heap.size) [.string (B (z_l_i.name)), .string (B (z_l_i.text))] 29 :: emp :: row (w.heap.size) [.pointer (some ⟨w.heap.size, 0, none⟩), .slice (a279) ((out ++ ((putS z_l_i.name ++ putS z_l_i.text)))).length (c280)] 88 :: L) w70 := St.back (L := grow 5 Rby h74 ((out ++ ((putS z_l_i.name ++ putS z_l_i.text)))) (a279) (c280) :: row (w5.heap.size) [.string (B (z_l_i.name)), .string (B (z_l_i.text))] 29 :: emp :: row (w.heap.size) [.pointer (some ⟨w.heap.size, 0, none⟩), .slice (a279) ((out ++ ((putS z_l_i.name ++ putS z_l_i.text)))).length (c280)] 88 :: L) (i := 3) hS69 rfl
        have hS82 : St Γ h74 (row (w5.heap.size) [.string (B (z_l_i.name)), .string (B (z_l_i.text))] 29 :: grow 5 Rby h74 ((out ++ ((putS z_l_i.name ++ putS z_l_i.text)))) (a279) (c280) :: row (w.heap.size) [.pointer (some ⟨w.heap.size, 0, none⟩), .slice (a279) ((out ++ ((putS z_l_i.name ++ putS z_l_i.text)))).length (c280)] 88 :: L) w70 := St.back (L := row (w5.heap.size) [.string (B (z_l_i.name)), .string (B (z_l_i.text))] 29 :: grow 5 Rby h74 ((out ++ ((putS z_l_i.name ++ putS z_l_i.text)))) (a279) (c280) :: row (w.heap.size) [.pointer (some ⟨w.heap.size, 0, none⟩), .slice (a279) ((out ++ ((putS z_l_i.name ++ putS z_l_i.text)))).length (c280)] 88 :: L) (i := 1) hS81 rfl
        refine WL.nil ?_
        refine block_normal ?_
        refine then_normal ?_
        refine WC.region ?_
        refine WL.val1 (R_add_i (a := ((i : Nat) : Int)) (b := 1) rfl rfl (by first | omega | (have q1 := hsz.2 z_l_i (List.mem_of_getElem? hz_l_i); have q2 := putS_len z_l_i.name (by omega); have q3 := putS_len z_l_i.text (by omega); (try simp only [List.length_append]); omega))) ?_
        refine WL.val1 (R_move (v := .int .i64 ((((i : Nat) : Int) + 1))) rfl) ?_
        refine WL.nil ?_
        refine then_normal ?_
        exact ⟨(i + 1, (out ++ ((putS z_l_i.name ++ putS z_l_i.text))), a279, c280, .pointer (some ⟨w.heap.size, 0, none⟩)), ⟨rfl, rfl, rfl, (by first | rfl | (apply congrArg (Value.int .i64); omega) | simp), trivial⟩, ⟨h74, ((hl7.trans hl66).trans hl75), hS82.pop, (by (try dsimp only); first | assumption | omega | simp), (by (try dsimp only); rw [← f2, filesS_step hz_l_i]; (try simp only [List.append_assoc])), (by (try dsimp only); first | omega | (have q1 := hsz.2 z_l_i (List.mem_of_getElem? hz_l_i); have q2 := putS_len z_l_i.name (by omega); have q3 := putS_len z_l_i.text (by omega); (try simp only [List.length_append]); omega)), (by (try dsimp only); exact .inr rfl)⟩, (by first | (simp only []; omega) | (simp; omega))⟩
    · skip
      refine WC.exit ?_
      refine then_exit ?_
      refine then_exit ?_
      refine block_exit ?_
      refine then_normal ?_
      refine WC.seq ?_
      refine WC.region ?_
      have hS83 : St Γ h6 (grow 5 Rby h6 (out) (out_a) (out_c) :: emp :: row (w.heap.size) [p, .slice (out_a) (out).length (out_c)] 88 :: L) w5 := hS4.front (i := 0) rfl
      have hS84 : St Γ h6 (row (w.heap.size) [p, .slice (out_a) (out).length (out_c)] 88 :: grow 5 Rby h6 (out) (out_a) (out_c) :: emp :: emp :: L) w5 := hS83.front (i := 2) rfl
      subst hL
      refine S_call (vs := [.pointer (some ⟨w.heap.size, 0, none⟩)]) Tryz.call43 rfl ((bld_String hM hin hp (L := emp :: emp :: []) hS84).mono ?_)
      rintro v87 w86 ⟨rfl, hS85⟩
      refine WL.val1 (R_assign (v := .string (B (out))) rfl) ?_
      refine WL.nil ?_
      refine then_normal ?_
      refine WC.ret ?_
      refine top_ret (.string (B (out))) (gives1 rfl rfl) ?_
      exact ⟨(by apply congrArg Value.string; apply congrArg B; rw [← f2, drop_nil (by omega), filesS_nil, List.append_nil]), hS85⟩
end Go.Stet
