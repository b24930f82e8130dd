/- A part of the proof engine: rules for steps of the machine over frames and memory. Each under the conditions that its own statement names. -/
import Derived.Test.YtejombkbijackaaDoorSeatD2
import Derived.Test.YtejombkbijackaaDoorBldD
import Derived.Test.YtejombkbijackaaDoorEng15
import Derived.Test.YtejombkbijackaaDoorSpec12
import Derived.Test.YtejombkbijackaaDoorD1
set_option linter.all false
set_option linter.unusedSimpArgs false
set_option linter.unusedVariables false
namespace Go.Stet
open Go Go.Eng Go.Proofs
set_option maxHeartbeats 400000 in
theorem ref02_Name (s : Str) (hs : s.length ≤ 9223372036854775807) : PureC GG Tryd.prog 27 (fun _ => True) [.string (B (s))] (.bool (nameS s)) := by
  intro Γ h L w hpre hS
  refine Ret.body Tryd.func27 rfl Tryd.ntmps27 (Nat.le_of_ble_eq_true rfl) ?_
  refine WC.seq ?_
  refine WC.region ?_
  refine WL.val1 (R_assign (v := .bool (false)) rfl) ?_
  refine WL.nil ?_
  refine then_normal ?_
  refine WC.seq ?_
  refine WC.seq ?_
  refine WC.region ?_
  refine WL.val1 (R_assign (v := .int .i64 (0)) rfl) ?_
  refine WL.nil ?_
  refine then_normal ?_
  refine WC.block ?_
  refine WC.loopL (σ := Nat)
    (fun (q_ : Nat) => (fun (i : Nat) => [(0, .string (B (s))), (3, .int .i64 (((i : Nat) : Int)))]) (q_))
    (fun (q_ : Nat) (w_ : World) => (fun (i : Nat) => ∃ h3 : Hp, h.le h3 ∧ St Γ h3 (L) w_ ∧ (i ≤ s.length) ∧ (nameF (s.drop i) = nameF s)) (q_))
    (fun (q_ : Nat) => (fun (i : Nat) => s.length - i) (q_)) (0) ?_ ?_ ?_
  · exact ⟨rfl, (by first | rfl | (apply congrArg (Value.int .i64); omega) | simp), trivial⟩
  · exact ⟨h, Hp.le_refl _, hS, (by first | assumption | omega | simp), (by rfl)⟩
  · rintro i r5 w2 ⟨h3, hl4, hS1, f1, f2⟩
    try dsimp only at f1 f2
    refine WC.seq ?_
    refine WC.seq ?_
    refine WC.region ?_
    refine WL.val1 (R_move (v := .int .i64 (((i : Nat) : Int))) rfl) ?_
    refine WL.val1 (R_move (v := .string (B (s))) rfl) ?_
    refine WL.val1 (R_slen (a := s) rfl Tryd.underlying9) ?_
    refine WL.val1 (R_lss (a := ((i : Nat) : Int)) (b := (((s).length : Nat) : Int)) rfl rfl) ?_
    refine WL.nil ?_
    refine then_normal ?_
    refine WC.condP (((i : Nat) : Int) < (((s).length : Nat) : Int)) rfl (fun c0 => ?_) (fun c0 => ?_)
    · skip
      refine WC.skip ?_
      refine then_normal ?_
      refine WC.seq ?_
      refine WC.block ?_
      refine WC.seq ?_
      refine WC.region ?_
      refine WL.val1 (R_move (v := .string (B (s))) rfl) ?_
      refine WL.val1 (R_move (v := .int .i64 (((i : Nat) : Int))) rfl) ?_
      refine WL.val1 (R_sindex (a := s) (i := ((i : Nat) : Int)) (n := i) rfl rfl Tryd.underlying9 (by first | rfl | (omega)) (by omega)) ?_
      have hb6 := at8_rng s i
      refine WL.val1 (R_assign (v := .int .u8 ((at8 s i))) rfl) ?_
      refine WL.nil ?_
      refine then_normal ?_
      refine WC.seq ?_
      refine WC.region ?_
      refine WL.val1 (R_move (v := .int .u8 ((at8 s i))) rfl) ?_
      refine WL.val1 (R_geq (a := (at8 s i)) (b := 97) rfl rfl) ?_
      refine WL.val1 (R_move (v := .bool (decide (97 ≤ (at8 s i)))) rfl) ?_
      refine WL.gpure (gd := decide (97 ≤ (at8 s i))) (yl_t (d := 16) rfl rfl) (fun hg => R_move (v := .int .u8 ((at8 s i))) rfl) ?_
      refine WL.gpure (gd := decide (97 ≤ (at8 s i))) (yl_t (d := 16) rfl rfl) (fun hg => R_leq (a := (at8 s i)) (b := 122) (gvT hg rfl) rfl) ?_
      refine WL.val1 (R_and (cb := decide (97 ≤ (at8 s i))) (yb := decide ((at8 s i) ≤ 122)) rfl rfl rfl) ?_
      refine WL.val1 (R_move (v := .bool ((decide (97 ≤ (at8 s i)) && decide ((at8 s i) ≤ 122)))) rfl) ?_
      refine WL.gpure (gd := (!((decide (97 ≤ (at8 s i)) && decide ((at8 s i) ≤ 122))))) (yl_f (d := 20) rfl rfl) (fun hg => R_move (v := .int .u8 ((at8 s i))) rfl) ?_
      refine WL.gpure (gd := (!((decide (97 ≤ (at8 s i)) && decide ((at8 s i) ≤ 122))))) (yl_f (d := 20) rfl rfl) (fun hg => R_geq (a := (at8 s i)) (b := 48) (gvT hg rfl) rfl) ?_
      refine WL.gpure (gd := (!((decide (97 ≤ (at8 s i)) && decide ((at8 s i) ≤ 122))))) (yl_f (d := 20) rfl rfl) (fun hg => R_move (v := .bool (decide (48 ≤ (at8 s i)))) (gvT hg rfl)) ?_
      refine WL.gpure (gd := (((!((decide (97 ≤ (at8 s i)) && decide ((at8 s i) ≤ 122))))) && (decide (48 ≤ (at8 s i))))) (ylg_t (d := 23) rfl rfl) (fun hg => R_move (v := .int .u8 ((at8 s i))) rfl) ?_
      refine WL.gpure (gd := (((!((decide (97 ≤ (at8 s i)) && decide ((at8 s i) ≤ 122))))) && (decide (48 ≤ (at8 s i))))) (ylg_t (d := 23) rfl rfl) (fun hg => R_leq (a := (at8 s i)) (b := 57) (gvT hg rfl) rfl) ?_
      refine WL.gpure (gd := (!((decide (97 ≤ (at8 s i)) && decide ((at8 s i) ≤ 122))))) (yl_f (d := 20) rfl rfl) (fun hg => R_and (cb := decide (48 ≤ (at8 s i))) (yb := decide ((at8 s i) ≤ 57)) (gvT hg rfl) (gvA hg rfl) rfl) ?_
      refine WL.val1 (R_or (cb := (decide (97 ≤ (at8 s i)) && decide ((at8 s i) ≤ 122))) (yb := (decide (48 ≤ (at8 s i)) && decide ((at8 s i) ≤ 57))) rfl rfl rfl) ?_
      refine WL.val1 (R_move (v := .bool (((decide (97 ≤ (at8 s i)) && decide ((at8 s i) ≤ 122)) || (decide (48 ≤ (at8 s i)) && decide ((at8 s i) ≤ 57))))) rfl) ?_
      refine WL.gpure (gd := (!(((decide (97 ≤ (at8 s i)) && decide ((at8 s i) ≤ 122)) || (decide (48 ≤ (at8 s i)) && decide ((at8 s i) ≤ 57)))))) (yl_f (d := 28) rfl rfl) (fun hg => R_move (v := .int .u8 ((at8 s i))) rfl) ?_
      refine WL.gpure (gd := (!(((decide (97 ≤ (at8 s i)) && decide ((at8 s i) ≤ 122)) || (decide (48 ≤ (at8 s i)) && decide ((at8 s i) ≤ 57)))))) (yl_f (d := 28) rfl rfl) (fun hg => R_eql (a := (at8 s i)) (b := 45) (gvT hg rfl) rfl) ?_
      refine WL.val1 (R_or (cb := ((decide (97 ≤ (at8 s i)) && decide ((at8 s i) ≤ 122)) || (decide (48 ≤ (at8 s i)) && decide ((at8 s i) ≤ 57)))) (yb := decide ((at8 s i) = 45)) rfl rfl rfl) ?_
      refine WL.val1 (R_move (v := .bool ((((decide (97 ≤ (at8 s i)) && decide ((at8 s i) ≤ 122)) || (decide (48 ≤ (at8 s i)) && decide ((at8 s i) ≤ 57))) || decide ((at8 s i) = 45)))) rfl) ?_
      refine WL.gpure (gd := (!((((decide (97 ≤ (at8 s i)) && decide ((at8 s i) ≤ 122)) || (decide (48 ≤ (at8 s i)) && decide ((at8 s i) ≤ 57))) || decide ((at8 s i) = 45))))) (yl_f (d := 32) rfl rfl) (fun hg => R_move (v := .int .u8 ((at8 s i))) rfl) ?_
      refine WL.gpure (gd := (!((((decide (97 ≤ (at8 s i)) && decide ((at8 s i) ≤ 122)) || (decide (48 ≤ (at8 s i)) && decide ((at8 s i) ≤ 57))) || decide ((at8 s i) = 45))))) (yl_f (d := 32) rfl rfl) (fun hg => R_eql (a := (at8 s i)) (b := 46) (gvT hg rfl) rfl) ?_
      refine WL.val1 (R_or (cb := (((decide (97 ≤ (at8 s i)) && decide ((at8 s i) ≤ 122)) || (decide (48 ≤ (at8 s i)) && decide ((at8 s i) ≤ 57))) || decide ((at8 s i) = 45))) (yb := decide ((at8 s i) = 46)) rfl rfl rfl) ?_
      refine WL.val1 (R_not (b := ((((decide (97 ≤ (at8 s i)) && decide ((at8 s i) ≤ 122)) || (decide (48 ≤ (at8 s i)) && decide ((at8 s i) ≤ 57))) || decide ((at8 s i) = 45)) || decide ((at8 s i) = 46))) rfl) ?_
      refine WL.nil ?_
      refine then_normal ?_
      refine WC.condI (¬ (((((97 ≤ (at8 s i) ∧ (at8 s i) ≤ 122) ∨ (48 ≤ (at8 s i) ∧ (at8 s i) ≤ 57)) ∨ (at8 s i) = 45) ∨ (at8 s i) = 46))) (b := (!(((((decide (97 ≤ (at8 s i)) && decide ((at8 s i) ≤ 122)) || (decide (48 ≤ (at8 s i)) && decide ((at8 s i) ≤ 57))) || decide ((at8 s i) = 45)) || decide ((at8 s i) = 46))))) rfl (b_not (b_or (b_or (b_or (b_and b_dec b_dec) (b_and b_dec b_dec)) b_dec) b_dec)) (fun c1 => ?_) (fun c1 => ?_)
      · skip
        refine WC.seq ?_
        refine WC.region ?_
        refine WL.val1 (R_assign (v := .bool (false)) rfl) ?_
        refine WL.nil ?_
        refine then_normal ?_
        refine WC.ret ?_
        refine block_ret ?_
        refine then_ret ?_
        refine then_ret ?_
        refine block_ret ?_
        refine then_ret ?_
        refine top_ret (.bool (false)) (gives1 rfl rfl) ?_
        exact ⟨(by rw [nameS, ← f2, nameF_step s i (by omega), show okB (at8 s i) = false by unfold okB; exact decide_eq_false (by omega)]; rfl), (hS1.weaken_h hl4)⟩
      · skip
        refine WC.skip ?_
        refine block_normal ?_
        refine then_normal ?_
        refine WC.region ?_
        refine WL.val1 (R_move (v := .int .i64 (((i : Nat) : Int))) rfl) ?_
        refine WL.val1 (R_add_i (a := ((i : Nat) : Int)) (b := 1) rfl rfl (by omega)) ?_
        refine WL.val1 (R_assign (v := .int .i64 ((((i : Nat) : Int) + 1))) rfl) ?_
        refine WL.nil ?_
        refine then_normal ?_
        exact ⟨(i + 1), ⟨rfl, (by first | rfl | (apply congrArg (Value.int .i64); omega) | simp), trivial⟩, ⟨h3, hl4, hS1, (by (try dsimp only); first | assumption | omega | simp), (by (try dsimp only); rw [← f2, nameF_step s i (by omega), show okB (at8 s i) = true by unfold okB; exact decide_eq_true (by omega)]; rfl)⟩, (by first | (simp only []; omega) | (simp; omega))⟩
    · skip
      refine WC.exit ?_
      refine then_exit ?_
      refine then_exit ?_
      refine block_exit ?_
      refine then_normal ?_
      refine WC.seq ?_
      refine WC.region ?_
      refine WL.val1 (R_move (v := .string (B (s))) rfl) ?_
      refine WL.val1 (R_slen (a := s) rfl Tryd.underlying9) ?_
      refine WL.val1 (R_geq (a := (((s).length : Nat) : Int)) (b := 1) rfl rfl) ?_
      refine WL.val1 (R_move (v := .bool (decide (1 ≤ (((s).length : Nat) : Int)))) rfl) ?_
      refine WL.gpure (gd := decide (1 ≤ (((s).length : Nat) : Int))) (yl_t (d := 40) rfl rfl) (fun hg => R_move (v := .string (B (s))) rfl) ?_
      refine WL.gpure (gd := decide (1 ≤ (((s).length : Nat) : Int))) (yl_t (d := 40) rfl rfl) (fun hg => R_slen (a := s) (gvT hg rfl) Tryd.underlying9) ?_
      refine WL.gpure (gd := decide (1 ≤ (((s).length : Nat) : Int))) (yl_t (d := 40) rfl rfl) (fun hg => R_leq (a := (((s).length : Nat) : Int)) (b := 24) (gvT hg rfl) rfl) ?_
      refine WL.val1 (R_and (cb := decide (1 ≤ (((s).length : Nat) : Int))) (yb := decide ((((s).length : Nat) : Int) ≤ 24)) rfl rfl rfl) ?_
      refine WL.val1 (R_assign (v := .bool ((decide (1 ≤ (((s).length : Nat) : Int)) && decide ((((s).length : Nat) : Int) ≤ 24)))) rfl) ?_
      refine WL.nil ?_
      refine then_normal ?_
      refine WC.ret ?_
      refine top_ret (.bool ((decide (1 ≤ (((s).length : Nat) : Int)) && decide ((((s).length : Nat) : Int) ≤ 24)))) (gives1 rfl rfl) ?_
      exact ⟨(by rw [nameS, ← f2, nameF_end s i (by omega)]; apply congrArg Value.bool; rw [Bool.eq_iff_iff]; simp <;> omega), (hS1.weaken_h hl4)⟩
end Go.Stet
