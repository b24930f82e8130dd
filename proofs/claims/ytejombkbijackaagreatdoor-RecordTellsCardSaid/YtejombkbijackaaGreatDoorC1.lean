/- Contracts of functions of the program, of the references and of the law: each says what the function returns, in plain Lean, and that it leaves all memory as it was; each under the conditions that its own statement names. -/
import Derived.Test.YtejombkbijackaaGreatDoorSeatZ2
import Derived.Test.YtejombkbijackaaGreatDoorBldZ
import Derived.Test.YtejombkbijackaaGreatDoorEng13
import Derived.Test.YtejombkbijackaaGreatDoorSpec11
set_option linter.all false
set_option linter.unusedSimpArgs false
set_option linter.unusedVariables false
namespace Go.Stet
open Go Go.Eng Go.Proofs
set_option maxHeartbeats 400000 in
theorem ref03_digit (c : Int)  : PureC GG Tryz.prog 60 (fun _ => True) [.int .u8 (c)] (.bool ((decide (48 ≤ c) && decide (c ≤ 57)))) := by
  intro Γ h L w hpre hS
  refine Ret.body Tryz.func60 rfl Tryz.ntmps60 (Nat.le_of_ble_eq_true rfl) ?_
  refine WC.seq ?_
  refine WC.region ?_
  refine WL.val1 (R_assign (v := .bool (false)) rfl) ?_
  refine WL.nil ?_
  refine then_normal ?_
  refine WC.seq ?_
  refine WC.region ?_
  refine WL.val1 (R_move (v := .int .u8 (c)) rfl) ?_
  refine WL.val1 (R_geq (a := c) (b := 48) rfl rfl) ?_
  refine WL.val1 (R_move (v := .bool (decide (48 ≤ c))) rfl) ?_
  refine WL.gpure (gd := decide (48 ≤ c)) (yl_t (d := 5) rfl rfl) (fun hg => R_move (v := .int .u8 (c)) rfl) ?_
  refine WL.gpure (gd := decide (48 ≤ c)) (yl_t (d := 5) rfl rfl) (fun hg => R_leq (a := c) (b := 57) (gvT hg rfl) rfl) ?_
  refine WL.val1 (R_and (cb := decide (48 ≤ c)) (yb := decide (c ≤ 57)) rfl rfl rfl) ?_
  refine WL.val1 (R_assign (v := .bool ((decide (48 ≤ c) && decide (c ≤ 57)))) rfl) ?_
  refine WL.nil ?_
  refine then_normal ?_
  refine WC.ret ?_
  refine top_ret (.bool ((decide (48 ≤ c) && decide (c ≤ 57)))) (gives1 rfl rfl) ?_
  exact ⟨(by first | rfl | (simp; done)), hS⟩
set_option maxHeartbeats 400000 in
theorem ref03_length (s : Str) (a : Int) (ha : 0 ≤ a ∧ a ≤ s.length) (hs : s.length ≤ 1000000000) : PureC GG Tryz.prog 49 (fun _ => True) [.string (B (s)), .int .i64 (a)] (.tuple #[.int .i64 ((lenS s a.toNat).1), .int .i64 ((lenS s a.toNat).2.1), .int .i64 ((lenS s a.toNat).2.2)]) := by
  intro Γ h L w hpre hS
  refine Ret.body Tryz.func49 rfl Tryz.ntmps49 (Nat.le_of_ble_eq_true rfl) ?_
  refine WC.seq ?_
  refine WC.region ?_
  refine WL.val1 (R_assign (v := .int .i64 (0)) rfl) ?_
  refine WL.val1 (R_assign (v := .int .i64 (0)) rfl) ?_
  refine WL.val1 (R_assign (v := .int .i64 (0)) rfl) ?_
  refine WL.nil ?_
  refine then_normal ?_
  refine WC.seq ?_
  refine WC.region ?_
  refine WL.val1 (R_assign (v := .int .i64 (0)) rfl) ?_
  refine WL.nil ?_
  refine then_normal ?_
  refine WC.seq ?_
  refine WC.seq ?_
  refine WC.region ?_
  refine WL.val1 (R_move (v := .int .i64 (a)) rfl) ?_
  refine WL.val1 (R_assign (v := .int .i64 (a)) rfl) ?_
  refine WL.nil ?_
  refine then_normal ?_
  refine WC.block ?_
  refine WC.loopL (σ := Nat × Int)
    (fun (q_ : Nat × Int) => (fun (i : Nat) (n : Int) => [(0, .string (B (s))), (1, .int .i64 (a)), (7, .int .i64 (n)), (8, .int .i64 (((i : Nat) : Int)))]) (q_.1) (q_.2))
    (fun (q_ : Nat × Int) (w_ : World) => (fun (i : Nat) (n : Int) => ∃ h3 : Hp, h.le h3 ∧ St Γ h3 (L) w_ ∧ (a ≤ i ∧ i ≤ s.length) ∧ (0 ≤ n ∧ n ≤ 999999) ∧ (lenF s a.toNat (s.length - i) i n = lenS s a.toNat)) (q_.1) (q_.2))
    (fun (q_ : Nat × Int) => (fun (i : Nat) (n : Int) => s.length - i) (q_.1) (q_.2)) (a.toNat, 0) ?_ ?_ ?_
  · exact ⟨rfl, rfl, (by first | rfl | (apply congrArg (Value.int .i64); omega) | simp), (by first | rfl | (apply congrArg (Value.int .i64); omega) | simp), trivial⟩
  · exact ⟨h, Hp.le_refl _, hS, (by simp; omega), (by first | assumption | omega | simp), (by rfl)⟩
  · rintro ⟨i, n⟩ r5 w2 ⟨h3, hl4, hS1, f1, f2, f3⟩
    try dsimp only at f1 f2 f3
    refine WC.seq ?_
    refine WC.seq ?_
    refine WC.region ?_
    refine WL.val1 (R_move (v := .int .i64 (((i : Nat) : Int))) rfl) ?_
    refine WL.val1 (R_move (v := .string (B (s))) rfl) ?_
    refine WL.val1 (R_slen (a := s) rfl Tryz.underlying9) ?_
    refine WL.val1 (R_lss (a := ((i : Nat) : Int)) (b := (((s).length : Nat) : Int)) rfl rfl) ?_
    refine WL.nil ?_
    refine then_normal ?_
    refine WC.condP (((i : Nat) : Int) < (((s).length : Nat) : Int)) rfl (fun c0 => ?_) (fun c0 => ?_)
    · skip
      refine WC.skip ?_
      refine then_normal ?_
      refine WC.seq ?_
      refine WC.block ?_
      refine WC.seq ?_
      refine WC.seq ?_
      refine WC.region ?_
      refine WL.val1 (R_move (v := .string (B (s))) rfl) ?_
      refine WL.val1 (R_move (v := .int .i64 (((i : Nat) : Int))) rfl) ?_
      refine WL.val1 (R_sindex (a := s) (i := ((i : Nat) : Int)) (n := i) rfl rfl Tryz.underlying9 (by first | rfl | (omega)) (by omega)) ?_
      have hb6 := at8_rng s i
      refine WL.val1 (R_eql (a := (at8 s i)) (b := 58) rfl rfl) ?_
      refine WL.val1 (R_move (v := .bool (decide ((at8 s i) = 58))) rfl) ?_
      refine WL.gpure (gd := decide ((at8 s i) = 58)) (yl_t (d := 20) rfl rfl) (fun hg => R_move (v := .int .i64 (((i : Nat) : Int))) rfl) ?_
      refine WL.gpure (gd := decide ((at8 s i) = 58)) (yl_t (d := 20) rfl rfl) (fun hg => R_move (v := .int .i64 (a)) rfl) ?_
      refine WL.gpure (gd := decide ((at8 s i) = 58)) (yl_t (d := 20) rfl rfl) (fun hg => R_gtr (a := ((i : Nat) : Int)) (b := a) (gvT hg rfl) (gvT hg rfl)) ?_
      refine WL.val1 (R_and (cb := decide ((at8 s i) = 58)) (yb := decide (a < ((i : Nat) : Int))) rfl rfl rfl) ?_
      refine WL.nil ?_
      refine then_normal ?_
      refine WC.condI (((at8 s i) = 58 ∧ a < ((i : Nat) : Int))) (b := (decide ((at8 s i) = 58) && decide (a < ((i : Nat) : Int)))) rfl (b_and b_dec b_dec) (fun c1 => ?_) (fun c1 => ?_)
      · skip
        refine WC.seq ?_
        refine WC.region ?_
        refine WL.val1 (R_move (v := .int .i64 (n)) rfl) ?_
        refine WL.val1 (R_move (v := .int .i64 (((i : Nat) : Int))) rfl) ?_
        refine WL.val1 (R_add_i (a := ((i : Nat) : Int)) (b := 1) rfl rfl (by omega)) ?_
        refine WL.val1 (R_assign (v := .int .i64 (n)) rfl) ?_
        refine WL.val1 (R_assign (v := .int .i64 ((((i : Nat) : Int) + 1))) rfl) ?_
        refine WL.val1 (R_assign (v := .int .i64 (0)) rfl) ?_
        refine WL.nil ?_
        refine then_normal ?_
        refine WC.ret ?_
        refine then_ret ?_
        refine block_ret ?_
        refine then_ret ?_
        refine then_ret ?_
        refine block_ret ?_
        refine then_ret ?_
        refine top_ret (.tuple #[.int .i64 (n), .int .i64 ((((i : Nat) : Int) + 1)), .int .i64 (0)]) (gives3 rfl rfl rfl rfl) ?_
        exact ⟨(by rw [← f3, lenF_step s a.toNat i n (by omega), if_pos (by omega)]), (hS1.weaken_h hl4)⟩
      · skip
        refine WC.skip ?_
        refine then_normal ?_
        refine WC.seq ?_
        refine WC.seq ?_
        refine WC.region ?_
        refine WL.val1 (R_move (v := .string (B (s))) rfl) ?_
        refine WL.val1 (R_move (v := .int .i64 (((i : Nat) : Int))) rfl) ?_
        refine WL.val1 (R_sindex (a := s) (i := ((i : Nat) : Int)) (n := i) rfl rfl Tryz.underlying9 (by first | rfl | (omega)) (by omega)) ?_
        have hb7 := at8_rng s i
        refine S_callP (vs := [.int .u8 ((at8 s i))]) hS1 Tryz.call60 rfl (ref03_digit ((at8 s i))) trivial ?_
        intro w9 hS8
        refine WL.val1 (R_not (b := (decide (48 ≤ ((at8 s i))) && decide (((at8 s i)) ≤ 57))) rfl) ?_
        refine WL.val1 (R_move (v := .bool ((!((decide (48 ≤ ((at8 s i))) && decide (((at8 s i)) ≤ 57)))))) rfl) ?_
        refine WL.gpure (gd := (!((!((decide (48 ≤ ((at8 s i))) && decide (((at8 s i)) ≤ 57))))))) (yl_f (d := 33) rfl rfl) (fun hg => R_move (v := .int .i64 (((i : Nat) : Int))) rfl) ?_
        refine WL.gpure (gd := (!((!((decide (48 ≤ ((at8 s i))) && decide (((at8 s i)) ≤ 57))))))) (yl_f (d := 33) rfl rfl) (fun hg => R_move (v := .int .i64 (a)) rfl) ?_
        refine WL.gpure (gd := (!((!((decide (48 ≤ ((at8 s i))) && decide (((at8 s i)) ≤ 57))))))) (yl_f (d := 33) rfl rfl) (fun hg => R_gtr (a := ((i : Nat) : Int)) (b := a) (gvT hg rfl) (gvT hg rfl)) ?_
        refine WL.gpure (gd := (!((!((decide (48 ≤ ((at8 s i))) && decide (((at8 s i)) ≤ 57))))))) (yl_f (d := 33) rfl rfl) (fun hg => R_move (v := .bool (decide (a < ((i : Nat) : Int)))) (gvT hg rfl)) ?_
        refine WL.gpure (gd := (((!((!((decide (48 ≤ ((at8 s i))) && decide (((at8 s i)) ≤ 57))))))) && (decide (a < ((i : Nat) : Int))))) (ylg_t (d := 37) rfl rfl) (fun hg => R_move (v := .string (B (s))) rfl) ?_
        refine WL.gpure (gd := (((!((!((decide (48 ≤ ((at8 s i))) && decide (((at8 s i)) ≤ 57))))))) && (decide (a < ((i : Nat) : Int))))) (ylg_t (d := 37) rfl rfl) (fun hg => R_move (v := .int .i64 (a)) rfl) ?_
        refine WL.gpure (gd := (((!((!((decide (48 ≤ ((at8 s i))) && decide (((at8 s i)) ≤ 57))))))) && (decide (a < ((i : Nat) : Int))))) (ylg_t (d := 37) rfl rfl) (fun hg => R_sindex (a := s) (i := a) (n := (a).toNat) (gvT hg rfl) (gvT hg rfl) Tryz.underlying9 (by first | rfl | (have hg_ := ((b_and (b_not (b_not (b_and b_dec b_dec))) b_dec)).1 hg; omega)) (by have hg_ := ((b_and (b_not (b_not (b_and b_dec b_dec))) b_dec)).1 hg; omega)) ?_
        have hb10 := at8_rng s (a).toNat
        refine WL.gpure (gd := (((!((!((decide (48 ≤ ((at8 s i))) && decide (((at8 s i)) ≤ 57))))))) && (decide (a < ((i : Nat) : Int))))) (ylg_t (d := 37) rfl rfl) (fun hg => R_eql (a := (at8 s (a).toNat)) (b := 48) (gvT hg rfl) rfl) ?_
        refine WL.gpure (gd := (!((!((decide (48 ≤ ((at8 s i))) && decide (((at8 s i)) ≤ 57))))))) (yl_f (d := 33) rfl rfl) (fun hg => R_and (cb := decide (a < ((i : Nat) : Int))) (yb := decide ((at8 s (a).toNat) = 48)) (gvT hg rfl) (gvA hg rfl) rfl) ?_
        refine WL.val1 (R_or (cb := (!((decide (48 ≤ ((at8 s i))) && decide (((at8 s i)) ≤ 57))))) (yb := (decide (a < ((i : Nat) : Int)) && decide ((at8 s (a).toNat) = 48))) rfl rfl rfl) ?_
        refine WL.nil ?_
        refine then_normal ?_
        refine WC.condI ((¬ ((48 ≤ ((at8 s i)) ∧ ((at8 s i)) ≤ 57)) ∨ (a < ((i : Nat) : Int) ∧ (at8 s (a).toNat) = 48))) (b := ((!((decide (48 ≤ ((at8 s i))) && decide (((at8 s i)) ≤ 57)))) || (decide (a < ((i : Nat) : Int)) && decide ((at8 s (a).toNat) = 48)))) rfl (b_or (b_not (b_and b_dec b_dec)) (b_and b_dec b_dec)) (fun c2 => ?_) (fun c2 => ?_)
        · skip
          refine WC.seq ?_
          refine WC.region ?_
          refine WL.val1 (R_assign (v := .int .i64 (0)) rfl) ?_
          refine WL.val1 (R_assign (v := .int .i64 (0)) rfl) ?_
          refine WL.val1 (R_assign (v := .int .i64 (5)) rfl) ?_
          refine WL.nil ?_
          refine then_normal ?_
          refine WC.ret ?_
          refine then_ret ?_
          refine block_ret ?_
          refine then_ret ?_
          refine then_ret ?_
          refine block_ret ?_
          refine then_ret ?_
          refine top_ret (.tuple #[.int .i64 (0), .int .i64 (0), .int .i64 (5)]) (gives3 rfl rfl rfl rfl) ?_
          exact ⟨(by rw [← f3, lenF_step s a.toNat i n (by omega), if_neg (by omega), if_pos (by omega)]), (hS8.weaken_h hl4)⟩
        · skip
          refine WC.skip ?_
          refine then_normal ?_
          refine WC.seq ?_
          refine WC.region ?_
          refine WL.val1 (R_move (v := .int .i64 (n)) rfl) ?_
          refine WL.val1 (R_mul_i (a := 10) (b := n) rfl rfl (by omega)) ?_
          refine WL.val1 (R_move (v := .string (B (s))) rfl) ?_
          refine WL.val1 (R_move (v := .int .i64 (((i : Nat) : Int))) rfl) ?_
          refine WL.val1 (R_sindex (a := s) (i := ((i : Nat) : Int)) (n := i) rfl rfl Tryz.underlying9 (by first | rfl | (omega)) (by omega)) ?_
          have hb11 := at8_rng s i
          refine WL.val1 (R_conv_i (a := (at8 s i)) rfl Tryz.underlying5 Tryz.underlying3 (by omega)) ?_
          refine WL.val1 (R_add_i (a := (10 * n)) (b := (at8 s i)) rfl rfl (by omega)) ?_
          refine WL.val1 (R_sub_i (a := ((10 * n) + (at8 s i))) (b := 48) rfl rfl (by omega)) ?_
          refine WL.val1 (R_assign (v := .int .i64 ((((10 * n) + (at8 s i)) - 48))) rfl) ?_
          refine WL.nil ?_
          refine then_normal ?_
          refine WC.seq ?_
          refine WC.region ?_
          refine WL.val1 (R_move (v := .int .i64 ((((10 * n) + (at8 s i)) - 48))) rfl) ?_
          refine WL.val1 (R_gtr (a := (((10 * n) + (at8 s i)) - 48)) (b := 999999) rfl rfl) ?_
          refine WL.nil ?_
          refine then_normal ?_
          refine WC.condP (999999 < (((10 * n) + (at8 s i)) - 48)) rfl (fun c3 => ?_) (fun c3 => ?_)
          · skip
            refine WC.seq ?_
            refine WC.region ?_
            refine WL.val1 (R_assign (v := .int .i64 (0)) rfl) ?_
            refine WL.val1 (R_assign (v := .int .i64 (0)) rfl) ?_
            refine WL.val1 (R_assign (v := .int .i64 (3)) rfl) ?_
            refine WL.nil ?_
            refine then_normal ?_
            refine WC.ret ?_
            refine block_ret ?_
            refine then_ret ?_
            refine then_ret ?_
            refine block_ret ?_
            refine then_ret ?_
            refine top_ret (.tuple #[.int .i64 (0), .int .i64 (0), .int .i64 (3)]) (gives3 rfl rfl rfl rfl) ?_
            exact ⟨(by rw [← f3, lenF_step s a.toNat i n (by omega), if_neg (by omega), if_neg (by omega), if_pos (by omega)]), (hS8.weaken_h hl4)⟩
          · skip
            refine WC.skip ?_
            refine block_normal ?_
            refine then_normal ?_
            refine WC.region ?_
            refine WL.val1 (R_move (v := .int .i64 (((i : Nat) : Int))) rfl) ?_
            refine WL.val1 (R_add_i (a := ((i : Nat) : Int)) (b := 1) rfl rfl (by omega)) ?_
            refine WL.val1 (R_assign (v := .int .i64 ((((i : Nat) : Int) + 1))) rfl) ?_
            refine WL.nil ?_
            refine then_normal ?_
            exact ⟨(i + 1, (10 * n + at8 s i - 48)), ⟨rfl, rfl, (by first | rfl | (apply congrArg (Value.int .i64); omega) | simp), (by first | rfl | (apply congrArg (Value.int .i64); omega) | simp), trivial⟩, ⟨h3, hl4, hS8, (by (try dsimp only); first | assumption | omega | simp), (by (try dsimp only); first | assumption | omega | simp), (by (try dsimp only); rw [← f3, lenF_step s a.toNat i n (by omega), if_neg (by omega), if_neg (by omega), if_neg (by omega)])⟩, (by first | (simp only []; omega) | (simp; omega))⟩
    · skip
      refine WC.exit ?_
      refine then_exit ?_
      refine then_exit ?_
      refine block_exit ?_
      refine then_normal ?_
      refine WC.seq ?_
      refine WC.region ?_
      refine WL.val1 (R_assign (v := .int .i64 (0)) rfl) ?_
      refine WL.val1 (R_assign (v := .int .i64 (0)) rfl) ?_
      refine WL.val1 (R_assign (v := .int .i64 (6)) rfl) ?_
      refine WL.nil ?_
      refine then_normal ?_
      refine WC.ret ?_
      refine top_ret (.tuple #[.int .i64 (0), .int .i64 (0), .int .i64 (6)]) (gives3 rfl rfl rfl rfl) ?_
      exact ⟨(by rw [← f3, show s.length - i = 0 by omega]; rfl), (hS1.weaken_h hl4)⟩
set_option maxHeartbeats 400000 in
theorem ref03_Get (s : Str) (at_ : Int) (top : Int) (hs : s.length ≤ 1000000000) : PureC GG Tryz.prog 36 (fun _ => True) [.string (B (s)), .int .i64 (at_), .int .i64 (top)] (.tuple #[.string (B ((getS s at_ top).1)), .int .i64 ((getS s at_ top).2.1), .int .i64 ((getS s at_ top).2.2)]) := by
  intro Γ h L w hpre hS
  refine Ret.body Tryz.func36 rfl Tryz.ntmps36 (Nat.le_of_ble_eq_true rfl) ?_
  refine WC.seq ?_
  refine WC.region ?_
  refine WL.val1 (R_assign (v := .string (B (([] : Str)))) rfl) ?_
  refine WL.val1 (R_assign (v := .int .i64 (0)) rfl) ?_
  refine WL.val1 (R_assign (v := .int .i64 (0)) rfl) ?_
  refine WL.nil ?_
  refine then_normal ?_
  refine WC.seq ?_
  refine WC.seq ?_
  refine WC.region ?_
  refine WL.val1 (R_move (v := .int .i64 (at_)) rfl) ?_
  refine WL.val1 (R_lss (a := at_) (b := 0) rfl rfl) ?_
  refine WL.val1 (R_move (v := .bool (decide (at_ < 0))) rfl) ?_
  refine WL.gpure (gd := (!(decide (at_ < 0)))) (yl_f (d := 14) rfl rfl) (fun hg => R_move (v := .int .i64 (at_)) rfl) ?_
  refine WL.gpure (gd := (!(decide (at_ < 0)))) (yl_f (d := 14) rfl rfl) (fun hg => R_move (v := .string (B (s))) rfl) ?_
  refine WL.gpure (gd := (!(decide (at_ < 0)))) (yl_f (d := 14) rfl rfl) (fun hg => R_slen (a := s) (gvT hg rfl) Tryz.underlying9) ?_
  refine WL.gpure (gd := (!(decide (at_ < 0)))) (yl_f (d := 14) rfl rfl) (fun hg => R_gtr (a := at_) (b := (((s).length : Nat) : Int)) (gvT hg rfl) (gvT hg rfl)) ?_
  refine WL.val1 (R_or (cb := decide (at_ < 0)) (yb := decide ((((s).length : Nat) : Int) < at_)) rfl rfl rfl) ?_
  refine WL.nil ?_
  refine then_normal ?_
  refine WC.condI ((at_ < 0 ∨ (((s).length : Nat) : Int) < at_)) (b := (decide (at_ < 0) || decide ((((s).length : Nat) : Int) < at_))) rfl (b_or b_dec b_dec) (fun c0 => ?_) (fun c0 => ?_)
  · skip
    refine WC.seq ?_
    refine WC.region ?_
    refine WL.val1 (R_assign (v := .string (B (([] : Str)))) rfl) ?_
    refine WL.val1 (R_assign (v := .int .i64 (0)) rfl) ?_
    refine WL.val1 (R_assign (v := .int .i64 (1)) rfl) ?_
    refine WL.nil ?_
    refine then_normal ?_
    refine WC.ret ?_
    refine then_ret ?_
    refine top_ret (.tuple #[.string (B (([] : Str))), .int .i64 (0), .int .i64 (1)]) (gives3 rfl rfl rfl rfl) ?_
    exact ⟨(by unfold getS; rw [if_pos (by omega)]), hS⟩
  · skip
    have hb := lenS_bd s at_.toNat (by omega)
    refine WC.skip ?_
    refine then_normal ?_
    refine WC.seq ?_
    refine WC.region ?_
    refine WL.val1 (R_move (v := .string (B (s))) rfl) ?_
    refine WL.val1 (R_move (v := .int .i64 (at_)) rfl) ?_
    refine S_callP (vs := [.string (B (s)), .int .i64 (at_)]) hS Tryz.call49 rfl (ref03_length (s) (at_) (by first | assumption | omega) (by first | assumption | omega)) trivial ?_
    intro w2 hS1
    refine WL.val1 (R_move (v := .tuple #[.int .i64 ((lenS s at_.toNat).1), .int .i64 ((lenS s at_.toNat).2.1), .int .i64 ((lenS s at_.toNat).2.2)]) rfl) ?_
    refine WL.val1 (R_extract (vs := [.int .i64 ((lenS s at_.toNat).1), .int .i64 ((lenS s at_.toNat).2.1), .int .i64 ((lenS s at_.toNat).2.2)].toArray) (v := .int .i64 ((lenS s at_.toNat).1)) rfl rfl) ?_
    refine WL.val1 (R_extract (vs := [.int .i64 ((lenS s at_.toNat).1), .int .i64 ((lenS s at_.toNat).2.1), .int .i64 ((lenS s at_.toNat).2.2)].toArray) (v := .int .i64 ((lenS s at_.toNat).2.1)) rfl rfl) ?_
    refine WL.val1 (R_extract (vs := [.int .i64 ((lenS s at_.toNat).1), .int .i64 ((lenS s at_.toNat).2.1), .int .i64 ((lenS s at_.toNat).2.2)].toArray) (v := .int .i64 ((lenS s at_.toNat).2.2)) rfl rfl) ?_
    refine WL.val1 (R_assign (v := .int .i64 ((lenS s at_.toNat).1)) rfl) ?_
    refine WL.val1 (R_assign (v := .int .i64 ((lenS s at_.toNat).2.1)) rfl) ?_
    refine WL.val1 (R_assign (v := .int .i64 ((lenS s at_.toNat).2.2)) rfl) ?_
    refine WL.nil ?_
    refine then_normal ?_
    refine WC.seq ?_
    refine WC.seq ?_
    refine WC.region ?_
    refine WL.val1 (R_move (v := .int .i64 ((lenS s at_.toNat).2.2)) rfl) ?_
    refine WL.val1 (R_neq (a := (lenS s at_.toNat).2.2) (b := 0) rfl rfl) ?_
    refine WL.nil ?_
    refine then_normal ?_
    refine WC.condP ((lenS s at_.toNat).2.2 ≠ 0) rfl (fun c1 => ?_) (fun c1 => ?_)
    · skip
      refine WC.seq ?_
      refine WC.region ?_
      refine WL.val1 (R_move (v := .int .i64 ((lenS s at_.toNat).2.2)) rfl) ?_
      refine WL.val1 (R_assign (v := .string (B (([] : Str)))) rfl) ?_
      refine WL.val1 (R_assign (v := .int .i64 (0)) rfl) ?_
      refine WL.val1 (R_assign (v := .int .i64 ((lenS s at_.toNat).2.2)) rfl) ?_
      refine WL.nil ?_
      refine then_normal ?_
      refine WC.ret ?_
      refine then_ret ?_
      refine top_ret (.tuple #[.string (B (([] : Str))), .int .i64 (0), .int .i64 ((lenS s at_.toNat).2.2)]) (gives3 rfl rfl rfl rfl) ?_
      exact ⟨(by unfold getS; rw [if_neg (by omega), if_pos (by omega)]), hS1⟩
    · skip
      have hb5 := hb.2.2.2.2.1 (by omega)
      refine WC.skip ?_
      refine then_normal ?_
      refine WC.seq ?_
      refine WC.seq ?_
      refine WC.region ?_
      refine WL.val1 (R_move (v := .int .i64 ((lenS s at_.toNat).1)) rfl) ?_
      refine WL.val1 (R_gtr (a := (lenS s at_.toNat).1) (b := 0) rfl rfl) ?_
      refine WL.val1 (R_move (v := .bool (decide (0 < (lenS s at_.toNat).1))) rfl) ?_
      refine WL.gpure (gd := decide (0 < (lenS s at_.toNat).1)) (yl_t (d := 32) rfl rfl) (fun hg => R_move (v := .int .i64 ((lenS s at_.toNat).1)) rfl) ?_
      refine WL.gpure (gd := decide (0 < (lenS s at_.toNat).1)) (yl_t (d := 32) rfl rfl) (fun hg => R_move (v := .int .i64 (top)) rfl) ?_
      refine WL.gpure (gd := decide (0 < (lenS s at_.toNat).1)) (yl_t (d := 32) rfl rfl) (fun hg => R_gtr (a := (lenS s at_.toNat).1) (b := top) (gvT hg rfl) (gvT hg rfl)) ?_
      refine WL.val1 (R_and (cb := decide (0 < (lenS s at_.toNat).1)) (yb := decide (top < (lenS s at_.toNat).1)) rfl rfl rfl) ?_
      refine WL.nil ?_
      refine then_normal ?_
      refine WC.condI ((0 < (lenS s at_.toNat).1 ∧ top < (lenS s at_.toNat).1)) (b := (decide (0 < (lenS s at_.toNat).1) && decide (top < (lenS s at_.toNat).1))) rfl (b_and b_dec b_dec) (fun c2 => ?_) (fun c2 => ?_)
      · skip
        refine WC.seq ?_
        refine WC.region ?_
        refine WL.val1 (R_assign (v := .string (B (([] : Str)))) rfl) ?_
        refine WL.val1 (R_assign (v := .int .i64 (0)) rfl) ?_
        refine WL.val1 (R_assign (v := .int .i64 (3)) rfl) ?_
        refine WL.nil ?_
        refine then_normal ?_
        refine WC.ret ?_
        refine then_ret ?_
        refine top_ret (.tuple #[.string (B (([] : Str))), .int .i64 (0), .int .i64 (3)]) (gives3 rfl rfl rfl rfl) ?_
        exact ⟨(by unfold getS; rw [if_neg (by omega), if_neg (by omega), if_pos (by omega)]), hS1⟩
      · skip
        refine WC.skip ?_
        refine then_normal ?_
        refine WC.seq ?_
        refine WC.seq ?_
        refine WC.region ?_
        refine WL.val1 (R_move (v := .string (B (s))) rfl) ?_
        refine WL.val1 (R_slen (a := s) rfl Tryz.underlying9) ?_
        refine WL.val1 (R_move (v := .int .i64 ((lenS s at_.toNat).2.1)) rfl) ?_
        refine WL.val1 (R_sub_i (a := (((s).length : Nat) : Int)) (b := (lenS s at_.toNat).2.1) rfl rfl (by omega)) ?_
        refine WL.val1 (R_move (v := .int .i64 ((lenS s at_.toNat).1)) rfl) ?_
        refine WL.val1 (R_add_i (a := (lenS s at_.toNat).1) (b := 1) rfl rfl (by omega)) ?_
        refine WL.val1 (R_lss (a := ((((s).length : Nat) : Int) - (lenS s at_.toNat).2.1)) (b := ((lenS s at_.toNat).1 + 1)) rfl rfl) ?_
        refine WL.nil ?_
        refine then_normal ?_
        refine WC.condP (((((s).length : Nat) : Int) - (lenS s at_.toNat).2.1) < ((lenS s at_.toNat).1 + 1)) rfl (fun c3 => ?_) (fun c3 => ?_)
        · skip
          refine WC.seq ?_
          refine WC.region ?_
          refine WL.val1 (R_assign (v := .string (B (([] : Str)))) rfl) ?_
          refine WL.val1 (R_assign (v := .int .i64 (0)) rfl) ?_
          refine WL.val1 (R_assign (v := .int .i64 (6)) rfl) ?_
          refine WL.nil ?_
          refine then_normal ?_
          refine WC.ret ?_
          refine then_ret ?_
          refine top_ret (.tuple #[.string (B (([] : Str))), .int .i64 (0), .int .i64 (6)]) (gives3 rfl rfl rfl rfl) ?_
          exact ⟨(by unfold getS; rw [if_neg (by omega), if_neg (by omega), if_neg (by omega), if_pos (by omega)]), hS1⟩
        · skip
          refine WC.skip ?_
          refine then_normal ?_
          refine WC.seq ?_
          refine WC.seq ?_
          refine WC.region ?_
          refine WL.val1 (R_move (v := .string (B (s))) rfl) ?_
          refine WL.val1 (R_move (v := .int .i64 ((lenS s at_.toNat).2.1)) rfl) ?_
          refine WL.val1 (R_move (v := .int .i64 ((lenS s at_.toNat).1)) rfl) ?_
          refine WL.val1 (R_add_i (a := (lenS s at_.toNat).2.1) (b := (lenS s at_.toNat).1) rfl rfl (by omega)) ?_
          refine WL.val1 (R_sindex (a := s) (i := ((lenS s at_.toNat).2.1 + (lenS s at_.toNat).1)) (n := (((lenS s at_.toNat).2.1 + (lenS s at_.toNat).1)).toNat) rfl rfl Tryz.underlying9 (by first | rfl | (omega)) (by omega)) ?_
          have hb3 := at8_rng s (((lenS s at_.toNat).2.1 + (lenS s at_.toNat).1)).toNat
          refine WL.val1 (R_neq (a := (at8 s (((lenS s at_.toNat).2.1 + (lenS s at_.toNat).1)).toNat)) (b := 44) rfl rfl) ?_
          refine WL.nil ?_
          refine then_normal ?_
          refine WC.condP ((at8 s (((lenS s at_.toNat).2.1 + (lenS s at_.toNat).1)).toNat) ≠ 44) rfl (fun c4 => ?_) (fun c4 => ?_)
          · skip
            refine WC.seq ?_
            refine WC.region ?_
            refine WL.val1 (R_assign (v := .string (B (([] : Str)))) rfl) ?_
            refine WL.val1 (R_assign (v := .int .i64 (0)) rfl) ?_
            refine WL.val1 (R_assign (v := .int .i64 (5)) rfl) ?_
            refine WL.nil ?_
            refine then_normal ?_
            refine WC.ret ?_
            refine then_ret ?_
            refine top_ret (.tuple #[.string (B (([] : Str))), .int .i64 (0), .int .i64 (5)]) (gives3 rfl rfl rfl rfl) ?_
            exact ⟨(by unfold getS; rw [if_neg (by omega), if_neg (by omega), if_neg (by omega), if_neg (by omega), if_pos (by omega)]), hS1⟩
          · skip
            refine WC.skip ?_
            refine then_normal ?_
            refine WC.seq ?_
            refine WC.region ?_
            refine WL.val1 (R_move (v := .string (B (s))) rfl) ?_
            refine WL.val1 (R_move (v := .int .i64 ((lenS s at_.toNat).2.1)) rfl) ?_
            refine WL.val1 (R_move (v := .int .i64 ((lenS s at_.toNat).2.1)) rfl) ?_
            refine WL.val1 (R_move (v := .int .i64 ((lenS s at_.toNat).1)) rfl) ?_
            refine WL.val1 (R_add_i (a := (lenS s at_.toNat).2.1) (b := (lenS s at_.toNat).1) rfl rfl (by omega)) ?_
            refine WL.val1 (R_sslice (a := s) (i := (lenS s at_.toNat).2.1) (j := ((lenS s at_.toNat).2.1 + (lenS s at_.toNat).1)) (m := ((lenS s at_.toNat).2.1).toNat) (n := (((lenS s at_.toNat).2.1 + (lenS s at_.toNat).1)).toNat) rfl rfl rfl Tryz.underlying9 (by first | rfl | (omega)) (by first | rfl | (omega)) (by omega) (by omega)) ?_
            refine WL.val1 (R_move (v := .int .i64 ((lenS s at_.toNat).2.1)) rfl) ?_
            refine WL.val1 (R_move (v := .int .i64 ((lenS s at_.toNat).1)) rfl) ?_
            refine WL.val1 (R_add_i (a := (lenS s at_.toNat).2.1) (b := (lenS s at_.toNat).1) rfl rfl (by omega)) ?_
            refine WL.val1 (R_add_i (a := ((lenS s at_.toNat).2.1 + (lenS s at_.toNat).1)) (b := 1) rfl rfl (by omega)) ?_
            refine WL.val1 (R_assign (v := .string (B (((s.take (((lenS s at_.toNat).2.1 + (lenS s at_.toNat).1)).toNat).drop ((lenS s at_.toNat).2.1).toNat)))) rfl) ?_
            refine WL.val1 (R_assign (v := .int .i64 ((((lenS s at_.toNat).2.1 + (lenS s at_.toNat).1) + 1))) rfl) ?_
            refine WL.val1 (R_assign (v := .int .i64 (0)) rfl) ?_
            refine WL.nil ?_
            refine then_normal ?_
            refine WC.ret ?_
            refine top_ret (.tuple #[.string (B (((s.take (((lenS s at_.toNat).2.1 + (lenS s at_.toNat).1)).toNat).drop ((lenS s at_.toNat).2.1).toNat))), .int .i64 ((((lenS s at_.toNat).2.1 + (lenS s at_.toNat).1) + 1)), .int .i64 (0)]) (gives3 rfl rfl rfl rfl) ?_
            exact ⟨(by unfold getS; rw [if_neg (by omega), if_neg (by omega), if_neg (by omega), if_neg (by omega), if_neg (by omega)]), hS1⟩
set_option maxHeartbeats 400000 in
theorem ref03_All (s : Str) (hs : s.length ≤ 1000000000) : FnC GG Tryz.prog 21 (fun _ => True) [.string (B (s))] (fun h v => ∃ (a : Option Addr) (c : Nat), v = .tuple #[.slice (a) ((allS s).1).length (c), .int .i64 ((allS s).2)] ∧ (Sl Rstr h (allS s).1 a c)) := by
  intro Γ h L w hpre hS
  refine Ret.body Tryz.func21 rfl Tryz.ntmps21 (Nat.le_of_ble_eq_true rfl) ?_
  refine WC.seq ?_
  refine WC.region ?_
  refine WL.val1 (R_assign (v := .slice none 0 0) rfl) ?_
  refine WL.val1 (R_assign (v := .int .i64 (0)) rfl) ?_
  refine WL.nil ?_
  refine then_normal ?_
  refine WC.seq ?_
  refine WC.region ?_
  refine S_buildSlice0 (R := Rstr) (e := 9) hS Tryz.underlying58 (Tryz.sizeOf9) ?_
  intro w2 hS1
  refine WL.val1 (R_assign (v := .slice (some ⟨w.heap.size, 0, none⟩) 0 (0)) rfl) ?_
  refine WL.val1 (R_assign (v := .int .i64 (0)) rfl) ?_
  refine WL.nil ?_
  refine then_normal ?_
  refine WC.seq ?_
  refine WC.block ?_
  refine WC.loopL (σ := Int × (List Str) × (Option Addr) × Nat)
    (fun (q_ : Int × (List Str) × (Option Addr) × Nat) => (fun (at_ : Int) (acc : List Str) (acc_a : Option Addr) (acc_c : Nat) => [(0, .string (B (s))), (4, .slice (acc_a) (acc).length (acc_c)), (5, .int .i64 (at_))]) (q_.1) (q_.2.1) (q_.2.2.1) (q_.2.2.2))
    (fun (q_ : Int × (List Str) × (Option Addr) × Nat) (w_ : World) => (fun (at_ : Int) (acc : List Str) (acc_a : Option Addr) (acc_c : Nat) => ∃ h5 : Hp, h.le h5 ∧ St Γ h5 (grow 9 Rstr h5 (acc) (acc_a) (acc_c) :: L) w_ ∧ (0 ≤ at_ ∧ at_ ≤ s.length) ∧ (acc.length ≤ at_) ∧ (∃ k : Nat, s.length + 1 ≤ at_ + k ∧ allF s k at_ acc = allS s)) (q_.1) (q_.2.1) (q_.2.2.1) (q_.2.2.2))
    (fun (q_ : Int × (List Str) × (Option Addr) × Nat) => (fun (at_ : Int) (acc : List Str) (acc_a : Option Addr) (acc_c : Nat) => (s.length + 1 - at_).toNat) (q_.1) (q_.2.1) (q_.2.2.1) (q_.2.2.2)) (0, ([] : List Str), some ⟨w.heap.size, 0, none⟩, 0) ?_ ?_ ?_
  · exact ⟨rfl, (by first | rfl | (apply congrArg (Value.int .i64); omega) | simp), (by first | rfl | (apply congrArg (Value.int .i64); omega) | simp), trivial⟩
  · exact ⟨h, Hp.le_refl _, hS1, (by first | assumption | omega | simp), (by first | assumption | omega | simp), (by exact ⟨s.length + 1, by omega, rfl⟩)⟩
  · rintro ⟨at_, acc, acc_a, acc_c⟩ r7 w4 ⟨h5, hl6, hS3, f1, f2, f3⟩
    try dsimp only at f1 f2 f3
    obtain ⟨k, hk, f3⟩ := f3
    have hb := getS_bd s at_ 999999
    refine WC.seq ?_
    refine WC.seq ?_
    refine WC.region ?_
    refine WL.val1 (R_move (v := .int .i64 (at_)) rfl) ?_
    refine WL.val1 (R_move (v := .string (B (s))) rfl) ?_
    refine WL.val1 (R_slen (a := s) rfl Tryz.underlying9) ?_
    refine WL.val1 (R_lss (a := at_) (b := (((s).length : Nat) : Int)) rfl rfl) ?_
    refine WL.nil ?_
    refine then_normal ?_
    refine WC.condP (at_ < (((s).length : Nat) : Int)) rfl (fun c0 => ?_) (fun c0 => ?_)
    · skip
      refine WC.skip ?_
      refine then_normal ?_
      refine WC.block ?_
      refine WC.seq ?_
      refine WC.region ?_
      refine WL.val1 (R_move (v := .string (B (s))) rfl) ?_
      refine WL.val1 (R_move (v := .int .i64 (at_)) rfl) ?_
      refine S_callP (vs := [.string (B (s)), .int .i64 (at_), .int .i64 (999999)]) hS3 Tryz.call36 rfl (ref03_Get (s) (at_) (999999) (by first | assumption | omega)) trivial ?_
      intro w9 hS8
      refine WL.val1 (R_move (v := .tuple #[.string (B ((getS s at_ 999999).1)), .int .i64 ((getS s at_ 999999).2.1), .int .i64 ((getS s at_ 999999).2.2)]) rfl) ?_
      refine WL.val1 (R_extract (vs := [.string (B ((getS s at_ 999999).1)), .int .i64 ((getS s at_ 999999).2.1), .int .i64 ((getS s at_ 999999).2.2)].toArray) (v := .string (B ((getS s at_ 999999).1))) rfl rfl) ?_
      refine WL.val1 (R_extract (vs := [.string (B ((getS s at_ 999999).1)), .int .i64 ((getS s at_ 999999).2.1), .int .i64 ((getS s at_ 999999).2.2)].toArray) (v := .int .i64 ((getS s at_ 999999).2.1)) rfl rfl) ?_
      refine WL.val1 (R_extract (vs := [.string (B ((getS s at_ 999999).1)), .int .i64 ((getS s at_ 999999).2.1), .int .i64 ((getS s at_ 999999).2.2)].toArray) (v := .int .i64 ((getS s at_ 999999).2.2)) rfl rfl) ?_
      refine WL.val1 (R_assign (v := .string (B ((getS s at_ 999999).1))) rfl) ?_
      refine WL.val1 (R_assign (v := .int .i64 ((getS s at_ 999999).2.1)) rfl) ?_
      refine WL.val1 (R_assign (v := .int .i64 ((getS s at_ 999999).2.2)) rfl) ?_
      refine WL.nil ?_
      refine then_normal ?_
      refine WC.seq ?_
      refine WC.seq ?_
      refine WC.region ?_
      refine WL.val1 (R_move (v := .int .i64 ((getS s at_ 999999).2.2)) rfl) ?_
      refine WL.val1 (R_neq (a := (getS s at_ 999999).2.2) (b := 0) rfl rfl) ?_
      refine WL.nil ?_
      refine then_normal ?_
      refine WC.condP ((getS s at_ 999999).2.2 ≠ 0) rfl (fun c1 => ?_) (fun c1 => ?_)
      · skip
        refine WC.seq ?_
        refine WC.region ?_
        refine WL.val1 (R_move (v := .int .i64 ((getS s at_ 999999).2.2)) rfl) ?_
        refine WL.val1 (R_assign (v := .slice none 0 0) rfl) ?_
        refine WL.val1 (R_assign (v := .int .i64 ((getS s at_ 999999).2.2)) rfl) ?_
        refine WL.nil ?_
        refine then_normal ?_
        refine WC.ret ?_
        refine then_ret ?_
        refine block_ret ?_
        refine then_ret ?_
        refine block_ret ?_
        refine then_ret ?_
        refine top_ret (.tuple #[.slice none 0 0, .int .i64 ((getS s at_ 999999).2.2)]) (gives2 rfl rfl rfl) ?_
        have e_ := allF_err s at_ acc k hk f3 c0 c1
        exact ⟨h5, hl6, ⟨none, 0, (by first | rfl | (rw [e_]; done) | (rw [e_]; rfl) | (simp; done)), (by first | exact Sl.nil _ _ _ _ | (rw [e_]; exact Sl.nil _ _ _ _))⟩, hS8.pop⟩
      · skip
        refine WC.skip ?_
        refine then_normal ?_
        refine WC.seq ?_
        refine WC.region ?_
        refine WL.val1 (R_move (v := .slice (acc_a) (acc).length (acc_c)) rfl) ?_
        refine WL.val1 (R_move (v := .string (B ((getS s at_ 999999).1))) rfl) ?_
        refine S_buildSliceC (R := Rstr) (m := 1) (vs := [(0, .string (B ((getS s at_ 999999).1)))]) (cells := [.string (B ((getS s at_ 999999).1))]) (xs := [(getS s at_ 999999).1]) hS8 Tryz.underlying58 Tryz.sizeOf9 Tryz.zeroValue9 (by decide) (by decide) rfl (by kernel_rfl) (by exact (⟨[.string (B ((getS s at_ 999999).1))], _, rfl, rfl, rfl⟩ : Flat Rstr _ [(getS s at_ 999999).1] _)) rfl ?_
        intro h12 b14 w11 hl13 hs15 hS10
        refine S_append (info := Tryz.t9) (R := Rstr) (xs := acc) (ys := [(getS s at_ 999999).1]) (a := acc_a) (c := acc_c) 0 Tryz.underlying58 (by kernel_rfl) rfl rfl rfl (by decide) 16 rfl hS10 rfl hl13 hs15 rfl rfl (by (try simp only [List.length_append, List.length_cons, List.length_nil]); omega) (by (try simp only [List.length_append, List.length_cons, List.length_nil]); omega) ?_
        intro a16 c17 w18 hS19
        refine WL.val1 (R_assign (v := .slice (a16) ((acc ++ [(getS s at_ 999999).1])).length (c17)) rfl) ?_
        refine WL.nil ?_
        refine then_normal ?_
        refine WC.region ?_
        refine WL.val1 (R_move (v := .int .i64 ((getS s at_ 999999).2.1)) rfl) ?_
        refine WL.val1 (R_assign (v := .int .i64 ((getS s at_ 999999).2.1)) rfl) ?_
        refine WL.nil ?_
        refine block_normal ?_
        refine then_normal ?_
        exact ⟨((getS s at_ 999999).2.1, (acc ++ [(getS s at_ 999999).1]), a16, c17), ⟨rfl, (by first | rfl | (apply congrArg (Value.int .i64); omega) | simp), (by first | rfl | (apply congrArg (Value.int .i64); omega) | simp), trivial⟩, ⟨h12, (hl6.trans hl13), hS19, (by (try dsimp only); omega), (by (try dsimp only); simp; omega), (by (try dsimp only); exact allF_next s at_ acc k hk f3 c0 (by omega))⟩, (by first | (simp only []; omega) | (simp; omega))⟩
    · skip
      refine WC.exit ?_
      refine then_exit ?_
      refine then_exit ?_
      refine block_exit ?_
      refine then_normal ?_
      refine WC.seq ?_
      refine WC.region ?_
      refine WL.val1 (R_move (v := .slice (acc_a) (acc).length (acc_c)) rfl) ?_
      refine WL.val1 (R_assign (v := .slice (acc_a) (acc).length (acc_c)) rfl) ?_
      refine WL.val1 (R_assign (v := .int .i64 (0)) rfl) ?_
      refine WL.nil ?_
      refine then_normal ?_
      refine WC.ret ?_
      refine top_ret (.tuple #[.slice (acc_a) (acc).length (acc_c), .int .i64 (0)]) (gives2 rfl rfl rfl) ?_
      obtain ⟨h20, hl21, hs22, hS23⟩ := hS3.growCommit (i := 0) rfl (Hp.le_refl _)
      have e_ := allF_end s at_ acc k hk f3 c0
      exact ⟨h20, (hl6.trans hl21), ⟨acc_a, acc_c, (by first | rfl | (rw [e_]; done) | (rw [e_]; rfl) | (simp; done)), (by first | exact hs22 | (rw [e_]; exact hs22))⟩, hS23.pop⟩
end Go.Stet
