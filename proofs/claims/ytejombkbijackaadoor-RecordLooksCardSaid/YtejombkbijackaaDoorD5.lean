/- A part of the proof engine: rules for steps of the machine over frames and memory. Each under the conditions that its own statement names. -/
import Derived.Test.YtejombkbijackaaDoorSeatD2
import Derived.Test.YtejombkbijackaaDoorBldD
import Derived.Test.YtejombkbijackaaDoorEng15
import Derived.Test.YtejombkbijackaaDoorSpec12
import Derived.Test.YtejombkbijackaaDoorD4
set_option linter.all false
set_option linter.unusedSimpArgs false
set_option linter.unusedVariables false
namespace Go.Stet
open Go Go.Eng Go.Proofs
set_option maxHeartbeats 400000 in
theorem wire_length (s : Str) (a : Int) (ha : 0 ≤ a ∧ a ≤ s.length) (hs : s.length ≤ 1000000000) : FnC GG Tryd.prog 64 (fun _ => True) [.string (B (s)), .int .i64 (a)] (fun h v => ∃ (b : Nat), v = .tuple #[.int .i64 ((lenS s a.toNat).1), .int .i64 ((lenS s a.toNat).2.1), errV 121 ((lenS s a.toNat).2.2) b] ∧ (ErrAt h (lenS s a.toNat).2.2 b)) := by
  intro Γ h L w hpre hS
  refine Ret.body Tryd.func64 rfl Tryd.ntmps64 (Nat.le_of_ble_eq_true rfl) ?_
  refine WC.seq ?_
  refine WC.region ?_
  refine WL.val1 (R_assign (v := .int .i64 (0)) rfl) ?_
  refine WL.val1 (R_assign (v := .int .i64 (0)) rfl) ?_
  refine WL.val1 (R_assign (v := .nilIface) rfl) ?_
  refine WL.nil ?_
  refine then_normal ?_
  refine WC.seq ?_
  refine WC.region ?_
  refine WL.val1 (R_assign (v := .int .i64 (0)) rfl) ?_
  refine WL.nil ?_
  refine then_normal ?_
  refine WC.seq ?_
  refine WC.seq ?_
  refine WC.region ?_
  refine WL.val1 (R_move (v := .int .i64 (a)) rfl) ?_
  refine WL.val1 (R_assign (v := .int .i64 (a)) rfl) ?_
  refine WL.nil ?_
  refine then_normal ?_
  refine WC.block ?_
  refine WC.loopL (σ := Nat × Int)
    (fun (q_ : Nat × Int) => (fun (i : Nat) (n : Int) => [(0, .string (B (s))), (1, .int .i64 (a)), (7, .int .i64 (n)), (8, .int .i64 (((i : Nat) : Int)))]) (q_.1) (q_.2))
    (fun (q_ : Nat × Int) (w_ : World) => (fun (i : Nat) (n : Int) => ∃ h3 : Hp, h.le h3 ∧ St Γ h3 (L) w_ ∧ (a ≤ i ∧ i ≤ s.length) ∧ (0 ≤ n ∧ n ≤ 999999) ∧ (lenF s a.toNat (s.length - i) i n = lenS s a.toNat) ∧ ((i = a → n = 0) ∧ (a < i → (n = 0 ↔ at8 s a.toNat = 48)))) (q_.1) (q_.2))
    (fun (q_ : Nat × Int) => (fun (i : Nat) (n : Int) => s.length - i) (q_.1) (q_.2)) (a.toNat, 0) ?_ ?_ ?_
  · exact ⟨rfl, rfl, (by first | rfl | (apply congrArg (Value.int .i64); omega) | simp), (by first | rfl | (apply congrArg (Value.int .i64); omega) | simp), trivial⟩
  · exact ⟨h, Hp.le_refl _, hS, (by simp; omega), (by first | assumption | omega | simp), (by rfl), (by simp; omega)⟩
  · rintro ⟨i, n⟩ r5 w2 ⟨h3, hl4, hS1, f1, f2, f3, f4⟩
    try dsimp only at f1 f2 f3 f4
    refine WC.seq ?_
    refine WC.seq ?_
    refine WC.region ?_
    refine WL.val1 (R_move (v := .int .i64 (((i : Nat) : Int))) rfl) ?_
    refine WL.val1 (R_move (v := .string (B (s))) rfl) ?_
    refine WL.val1 (R_slen (a := s) rfl Tryd.underlying9) ?_
    refine WL.val1 (R_lss (a := ((i : Nat) : Int)) (b := (((s).length : Nat) : Int)) rfl rfl) ?_
    refine WL.nil ?_
    refine then_normal ?_
    refine WC.condP (((i : Nat) : Int) < (((s).length : Nat) : Int)) rfl (fun c0 => ?_) (fun c0 => ?_)
    · skip
      refine WC.skip ?_
      refine then_normal ?_
      refine WC.seq ?_
      refine WC.block ?_
      refine WC.seq ?_
      refine WC.region ?_
      refine WL.val1 (R_move (v := .string (B (s))) rfl) ?_
      refine WL.val1 (R_move (v := .int .i64 (((i : Nat) : Int))) rfl) ?_
      refine WL.val1 (R_sindex (a := s) (i := ((i : Nat) : Int)) (n := i) rfl rfl Tryd.underlying9 (by first | rfl | (omega)) (by omega)) ?_
      have hb6 := at8_rng s i
      refine WL.val1 (R_assign (v := .int .u8 ((at8 s i))) rfl) ?_
      refine WL.nil ?_
      refine then_normal ?_
      refine WC.seq ?_
      refine WC.block ?_
      refine WC.seq ?_
      refine WC.region ?_
      refine WL.val1 (R_move (v := .int .u8 ((at8 s i))) rfl) ?_
      refine WL.val1 (R_eql (a := (at8 s i)) (b := 58) rfl rfl) ?_
      refine WL.val1 (R_move (v := .bool (decide ((at8 s i) = 58))) rfl) ?_
      refine WL.gpure (gd := decide ((at8 s i) = 58)) (yl_t (d := 23) rfl rfl) (fun hg => R_move (v := .int .i64 (((i : Nat) : Int))) rfl) ?_
      refine WL.gpure (gd := decide ((at8 s i) = 58)) (yl_t (d := 23) rfl rfl) (fun hg => R_move (v := .int .i64 (a)) rfl) ?_
      refine WL.gpure (gd := decide ((at8 s i) = 58)) (yl_t (d := 23) rfl rfl) (fun hg => R_gtr (a := ((i : Nat) : Int)) (b := a) (gvT hg rfl) (gvT hg rfl)) ?_
      refine WL.val1 (R_and (cb := decide ((at8 s i) = 58)) (yb := decide (a < ((i : Nat) : Int))) rfl rfl rfl) ?_
      refine WL.val1 (R_assign (v := .bool ((decide ((at8 s i) = 58) && decide (a < ((i : Nat) : Int))))) rfl) ?_
      refine WL.nil ?_
      refine then_normal ?_
      refine WC.condI (((at8 s i) = 58 ∧ a < ((i : Nat) : Int))) (b := (decide ((at8 s i) = 58) && decide (a < ((i : Nat) : Int)))) rfl (b_and b_dec b_dec) (fun c1 => ?_) (fun c1 => ?_)
      · skip
        refine WC.seq ?_
        refine WC.region ?_
        refine WL.val1 (R_move (v := .int .i64 (n)) rfl) ?_
        refine WL.val1 (R_move (v := .int .i64 (((i : Nat) : Int))) rfl) ?_
        refine WL.val1 (R_add_i (a := ((i : Nat) : Int)) (b := 1) rfl rfl (by omega)) ?_
        refine WL.val1 (R_assign (v := .int .i64 (n)) rfl) ?_
        refine WL.val1 (R_assign (v := .int .i64 ((((i : Nat) : Int) + 1))) rfl) ?_
        refine WL.val1 (R_assign (v := .nilIface) rfl) ?_
        refine WL.nil ?_
        refine then_normal ?_
        refine WC.ret ?_
        refine block_ret ?_
        refine then_ret ?_
        refine block_ret ?_
        refine then_ret ?_
        refine then_ret ?_
        refine block_ret ?_
        refine then_ret ?_
        refine top_ret (.tuple #[.int .i64 (n), .int .i64 ((((i : Nat) : Int) + 1)), .nilIface]) (gives3 rfl rfl rfl rfl) ?_
        have e_ := f3.symm.trans (lenF_step s a.toNat i n (by omega)); rw [if_pos (by omega)] at e_
        exact ⟨h3, hl4, ⟨0, (by first | rfl | (rw [e_]; done) | (rw [e_]; rfl) | (simp; done)), (by first | exact ErrAt.zero _ _ | (rw [e_]; exact ErrAt.zero _ _))⟩, hS1⟩
      · skip
        refine WC.seq ?_
        refine WC.region ?_
        refine WL.val1 (R_move (v := .int .u8 ((at8 s i))) rfl) ?_
        refine WL.val1 (R_lss (a := (at8 s i)) (b := 48) rfl rfl) ?_
        refine WL.val1 (R_move (v := .bool (decide ((at8 s i) < 48))) rfl) ?_
        refine WL.gpure (gd := (!(decide ((at8 s i) < 48)))) (yl_f (d := 34) rfl rfl) (fun hg => R_move (v := .int .u8 ((at8 s i))) rfl) ?_
        refine WL.gpure (gd := (!(decide ((at8 s i) < 48)))) (yl_f (d := 34) rfl rfl) (fun hg => R_gtr (a := (at8 s i)) (b := 57) (gvT hg rfl) rfl) ?_
        refine WL.val1 (R_or (cb := decide ((at8 s i) < 48)) (yb := decide (57 < (at8 s i))) rfl rfl rfl) ?_
        refine WL.val1 (R_move (v := .bool ((decide ((at8 s i) < 48) || decide (57 < (at8 s i))))) rfl) ?_
        refine WL.gpure (gd := (!((decide ((at8 s i) < 48) || decide (57 < (at8 s i)))))) (yl_f (d := 38) rfl rfl) (fun hg => R_move (v := .int .i64 (((i : Nat) : Int))) rfl) ?_
        refine WL.gpure (gd := (!((decide ((at8 s i) < 48) || decide (57 < (at8 s i)))))) (yl_f (d := 38) rfl rfl) (fun hg => R_move (v := .int .i64 (a)) rfl) ?_
        refine WL.gpure (gd := (!((decide ((at8 s i) < 48) || decide (57 < (at8 s i)))))) (yl_f (d := 38) rfl rfl) (fun hg => R_gtr (a := ((i : Nat) : Int)) (b := a) (gvT hg rfl) (gvT hg rfl)) ?_
        refine WL.gpure (gd := (!((decide ((at8 s i) < 48) || decide (57 < (at8 s i)))))) (yl_f (d := 38) rfl rfl) (fun hg => R_move (v := .bool (decide (a < ((i : Nat) : Int)))) (gvT hg rfl)) ?_
        refine WL.gpure (gd := (((!((decide ((at8 s i) < 48) || decide (57 < (at8 s i)))))) && (decide (a < ((i : Nat) : Int))))) (ylg_t (d := 42) rfl rfl) (fun hg => R_move (v := .int .i64 (n)) rfl) ?_
        refine WL.gpure (gd := (((!((decide ((at8 s i) < 48) || decide (57 < (at8 s i)))))) && (decide (a < ((i : Nat) : Int))))) (ylg_t (d := 42) rfl rfl) (fun hg => R_eql (a := n) (b := 0) (gvT hg rfl) rfl) ?_
        refine WL.gpure (gd := (!((decide ((at8 s i) < 48) || decide (57 < (at8 s i)))))) (yl_f (d := 38) rfl rfl) (fun hg => R_and (cb := decide (a < ((i : Nat) : Int))) (yb := decide (n = 0)) (gvT hg rfl) (gvA hg rfl) rfl) ?_
        refine WL.val1 (R_or (cb := (decide ((at8 s i) < 48) || decide (57 < (at8 s i)))) (yb := (decide (a < ((i : Nat) : Int)) && decide (n = 0))) rfl rfl rfl) ?_
        refine WL.val1 (R_assign (v := .bool (((decide ((at8 s i) < 48) || decide (57 < (at8 s i))) || (decide (a < ((i : Nat) : Int)) && decide (n = 0))))) rfl) ?_
        refine WL.nil ?_
        refine then_normal ?_
        refine WC.condI ((((at8 s i) < 48 ∨ 57 < (at8 s i)) ∨ (a < ((i : Nat) : Int) ∧ n = 0))) (b := ((decide ((at8 s i) < 48) || decide (57 < (at8 s i))) || (decide (a < ((i : Nat) : Int)) && decide (n = 0)))) rfl (b_or (b_or b_dec b_dec) (b_and b_dec b_dec)) (fun c2 => ?_) (fun c2 => ?_)
        · skip
          refine WC.seq ?_
          refine WC.region ?_
          refine WL.val1 (R_move (v := .int .i64 (((i : Nat) : Int))) rfl) ?_
          refine WL.val1 (R_build (vs := [(0, .int .i64 (((i : Nat) : Int))), (1, .int .i64 (5))]) (v := .agg #[.int .i64 (((i : Nat) : Int)), .int .i64 (5)]) rfl (fun _ => by kernel_rfl)) ?_
          refine S_box (l := [.int .i64 (((i : Nat) : Int)), .int .i64 (5)]) (v := .agg #[.int .i64 (((i : Nat) : Int)), .int .i64 (5)]) hS1 rfl rfl ?_
          intro w8 hS7
          obtain ⟨h9, hl10, hat11, hS12⟩ := hS7.commitRow (i := 0) rfl
          refine WL.val1 (R_makeInterface (v := .pointer (some ⟨w2.heap.size, 0, none⟩)) rfl (fun _ => by kernel_rfl)) ?_
          refine WL.val1 (R_assign (v := .int .i64 (0)) rfl) ?_
          refine WL.val1 (R_assign (v := .int .i64 (0)) rfl) ?_
          refine WL.val1 (R_assign (v := .iface 121 (.pointer (some ⟨w2.heap.size, 0, none⟩))) rfl) ?_
          refine WL.nil ?_
          refine then_normal ?_
          refine WC.ret ?_
          refine block_ret ?_
          refine then_ret ?_
          refine block_ret ?_
          refine then_ret ?_
          refine then_ret ?_
          refine block_ret ?_
          refine then_ret ?_
          refine top_ret (.tuple #[.int .i64 (0), .int .i64 (0), .iface 121 (.pointer (some ⟨w2.heap.size, 0, none⟩))]) (gives3 rfl rfl rfl rfl) ?_
          have e_ := f3.symm.trans (lenF_step s a.toNat i n (by omega)); rw [if_neg (by omega), if_pos (by omega)] at e_
          exact ⟨h9, (hl4.trans hl10), ⟨w2.heap.size, (by first | rfl | (rw [e_]; done) | (rw [e_]; rfl) | (simp; done)), (by first | exact ErrAt.of hat11 | (rw [e_]; exact ErrAt.of hat11))⟩, hS12.pop⟩
        · skip
          refine WC.skip ?_
          refine block_normal ?_
          refine then_normal ?_
          refine WC.seq ?_
          refine WC.region ?_
          refine WL.val1 (R_move (v := .int .i64 (n)) rfl) ?_
          refine WL.val1 (R_mul_i (a := n) (b := 10) rfl rfl (by omega)) ?_
          refine WL.val1 (R_move (v := .int .u8 ((at8 s i))) rfl) ?_
          refine WL.val1 (R_sub_u8 (a := (at8 s i)) (b := 48) rfl rfl (by omega)) ?_
          refine WL.val1 (R_conv_i (a := ((at8 s i) - 48)) rfl Tryd.underlying5 Tryd.underlying3 (by omega)) ?_
          refine WL.val1 (R_add_i (a := (n * 10)) (b := ((at8 s i) - 48)) rfl rfl (by omega)) ?_
          refine WL.val1 (R_assign (v := .int .i64 (((n * 10) + ((at8 s i) - 48)))) rfl) ?_
          refine WL.nil ?_
          refine then_normal ?_
          refine WC.seq ?_
          refine WC.region ?_
          refine WL.val1 (R_move (v := .int .i64 (((n * 10) + ((at8 s i) - 48)))) rfl) ?_
          refine WL.val1 (R_gtr (a := ((n * 10) + ((at8 s i) - 48))) (b := 999999) rfl rfl) ?_
          refine WL.nil ?_
          refine then_normal ?_
          refine WC.condP (999999 < ((n * 10) + ((at8 s i) - 48))) rfl (fun c3 => ?_) (fun c3 => ?_)
          · skip
            refine WC.seq ?_
            refine WC.region ?_
            refine WL.val1 (R_move (v := .int .i64 (((i : Nat) : Int))) rfl) ?_
            refine WL.val1 (R_build (vs := [(0, .int .i64 (((i : Nat) : Int))), (1, .int .i64 (3))]) (v := .agg #[.int .i64 (((i : Nat) : Int)), .int .i64 (3)]) rfl (fun _ => by kernel_rfl)) ?_
            refine S_box (l := [.int .i64 (((i : Nat) : Int)), .int .i64 (3)]) (v := .agg #[.int .i64 (((i : Nat) : Int)), .int .i64 (3)]) hS1 rfl rfl ?_
            intro w14 hS13
            obtain ⟨h15, hl16, hat17, hS18⟩ := hS13.commitRow (i := 0) rfl
            refine WL.val1 (R_makeInterface (v := .pointer (some ⟨w2.heap.size, 0, none⟩)) rfl (fun _ => by kernel_rfl)) ?_
            refine WL.val1 (R_assign (v := .int .i64 (0)) rfl) ?_
            refine WL.val1 (R_assign (v := .int .i64 (0)) rfl) ?_
            refine WL.val1 (R_assign (v := .iface 121 (.pointer (some ⟨w2.heap.size, 0, none⟩))) rfl) ?_
            refine WL.nil ?_
            refine then_normal ?_
            refine WC.ret ?_
            refine block_ret ?_
            refine then_ret ?_
            refine then_ret ?_
            refine block_ret ?_
            refine then_ret ?_
            refine top_ret (.tuple #[.int .i64 (0), .int .i64 (0), .iface 121 (.pointer (some ⟨w2.heap.size, 0, none⟩))]) (gives3 rfl rfl rfl rfl) ?_
            have e_ := f3.symm.trans (lenF_step s a.toNat i n (by omega)); rw [if_neg (by omega), if_neg (by omega), if_pos (by omega)] at e_
            exact ⟨h15, (hl4.trans hl16), ⟨w2.heap.size, (by first | rfl | (rw [e_]; done) | (rw [e_]; rfl) | (simp; done)), (by first | exact ErrAt.of hat17 | (rw [e_]; exact ErrAt.of hat17))⟩, hS18.pop⟩
          · skip
            refine WC.skip ?_
            refine block_normal ?_
            refine then_normal ?_
            refine WC.region ?_
            refine WL.val1 (R_move (v := .int .i64 (((i : Nat) : Int))) rfl) ?_
            refine WL.val1 (R_add_i (a := ((i : Nat) : Int)) (b := 1) rfl rfl (by omega)) ?_
            refine WL.val1 (R_assign (v := .int .i64 ((((i : Nat) : Int) + 1))) rfl) ?_
            refine WL.nil ?_
            refine then_normal ?_
            exact ⟨(i + 1, ((n * 10) + ((at8 s i) - 48))), ⟨rfl, rfl, (by first | rfl | (apply congrArg (Value.int .i64); omega) | simp), (by first | rfl | (apply congrArg (Value.int .i64); omega) | simp), trivial⟩, ⟨h3, hl4, hS1, (by (try dsimp only); first | assumption | omega | simp), (by (try dsimp only); first | assumption | omega | simp), (by (try dsimp only); rw [← f3, lenF_step s a.toNat i n (by omega), if_neg (by omega), if_neg (by omega), if_neg (by omega)]; exact congrArg _ (by omega)), (by (try dsimp only); refine ⟨fun h => by omega, fun _ => ?_⟩; exact (Nat.lt_or_ge a.toNat i).elim (fun hh => by omega) (fun hh => by rw [show a.toNat = i by omega]; omega))⟩, (by first | (simp only []; omega) | (simp; omega))⟩
    · skip
      refine WC.exit ?_
      refine then_exit ?_
      refine then_exit ?_
      refine block_exit ?_
      refine then_normal ?_
      refine WC.seq ?_
      refine WC.region ?_
      refine WL.val1 (R_move (v := .string (B (s))) rfl) ?_
      refine WL.val1 (R_slen (a := s) rfl Tryd.underlying9) ?_
      refine WL.val1 (R_build (vs := [(0, .int .i64 ((((s).length : Nat) : Int))), (1, .int .i64 (6))]) (v := .agg #[.int .i64 ((((s).length : Nat) : Int)), .int .i64 (6)]) rfl (fun _ => by kernel_rfl)) ?_
      refine S_box (l := [.int .i64 ((((s).length : Nat) : Int)), .int .i64 (6)]) (v := .agg #[.int .i64 ((((s).length : Nat) : Int)), .int .i64 (6)]) hS1 rfl rfl ?_
      intro w20 hS19
      obtain ⟨h21, hl22, hat23, hS24⟩ := hS19.commitRow (i := 0) rfl
      refine WL.val1 (R_makeInterface (v := .pointer (some ⟨w2.heap.size, 0, none⟩)) rfl (fun _ => by kernel_rfl)) ?_
      refine WL.val1 (R_assign (v := .int .i64 (0)) rfl) ?_
      refine WL.val1 (R_assign (v := .int .i64 (0)) rfl) ?_
      refine WL.val1 (R_assign (v := .iface 121 (.pointer (some ⟨w2.heap.size, 0, none⟩))) rfl) ?_
      refine WL.nil ?_
      refine then_normal ?_
      refine WC.ret ?_
      refine top_ret (.tuple #[.int .i64 (0), .int .i64 (0), .iface 121 (.pointer (some ⟨w2.heap.size, 0, none⟩))]) (gives3 rfl rfl rfl rfl) ?_
      have e_ := f3.symm; rw [show s.length - i = 0 by omega] at e_; unfold lenF at e_
      exact ⟨h21, (hl4.trans hl22), ⟨w2.heap.size, (by first | rfl | (rw [e_]; done) | (rw [e_]; rfl) | (simp; done)), (by first | exact ErrAt.of hat23 | (rw [e_]; exact ErrAt.of hat23))⟩, hS24.pop⟩
set_option maxHeartbeats 400000 in
theorem wire_number (e : Int) (e_b : Nat) (hne : e ≠ 0) : PureC GG Tryd.prog 57 (fun h => ErrAt h e e_b) [errV 121 (e) e_b] (.int .i64 (e)) := by
  intro Γ h L w hpre hS
  have sl_e := hpre
  have he : errV 121 e e_b = .iface 121 (.pointer (some ⟨e_b, 0, none⟩)) := if_neg hne
  refine Ret.body Tryd.func57 rfl Tryd.ntmps57 (Nat.le_of_ble_eq_true rfl) ?_
  refine WC.seq ?_
  refine WC.region ?_
  refine WL.val1 (R_assign (v := .int .i64 (0)) rfl) ?_
  refine WL.nil ?_
  refine then_normal ?_
  refine WC.seq ?_
  refine WC.region ?_
  refine S_alloc hS Tryd.zeroValue54 ?_
  intro w2 hS1
  refine WL.nil ?_
  refine then_normal ?_
  refine WC.seq ?_
  refine WC.seq ?_
  refine WC.region ?_
  refine WL.val1 (R_move (v := errV 121 (e) e_b) rfl) ?_
  refine WL.val1 (R_makeInterface (v := .pointer (some ⟨w.heap.size, 0, none⟩)) rfl (fun _ => by kernel_rfl)) ?_
  refine S_callM (vs := [.iface 121 (.pointer (some ⟨e_b, 0, none⟩)), .iface 127 (.pointer (some ⟨w.heap.size, 0, none⟩))]) 0 hS1 rfl Tryd.call65 (hmap2 he rfl) (as_M e_b 0 e (w.heap.size) (.int .i64 (0))) ⟨sl_e hne, rfl⟩ ?_
  intro h3 A4 v5 w6 hl7 hp8 hS9
  obtain ⟨rfl, rfl⟩ := hp8
  refine WL.nil ?_
  refine then_normal ?_
  refine WC.condT rfl ?_
  refine WC.seq ?_
  refine WC.region ?_
  refine WL.val1 (R_load (v := .int .i64 (e)) rfl (hS9.has (i := 0) rfl) (Tryd.isAgg54 _) rfl) ?_
  refine WL.val1 (R_assign (v := .int .i64 (e)) rfl) ?_
  refine WL.nil ?_
  refine then_normal ?_
  refine WC.ret ?_
  refine then_ret ?_
  refine top_ret (.int .i64 (e)) (gives1 rfl rfl) ?_
  exact ⟨(by rfl), (hS9.pop.weaken_h hl7)⟩
set_option maxHeartbeats 400000 in
theorem wire_get (s : Str) (at_ : Int) (top : Int) (hs : s.length ≤ 1000000000) : FnC GG Tryd.prog 56 (fun _ => True) [.string (B (s)), .int .i64 (at_), .int .i64 (top)] (fun h v => ∃ (b : Nat), v = .tuple #[.string (B ((getS s at_ top).1)), .int .i64 ((getS s at_ top).2.1), errV 121 ((getS s at_ top).2.2) b] ∧ (ErrAt h (getS s at_ top).2.2 b)) := by
  intro Γ h L w hpre hS
  refine Ret.body Tryd.func56 rfl Tryd.ntmps56 (Nat.le_of_ble_eq_true rfl) ?_
  refine WC.seq ?_
  refine WC.region ?_
  refine WL.val1 (R_assign (v := .string (B (([] : Str)))) rfl) ?_
  refine WL.val1 (R_assign (v := .int .i64 (0)) rfl) ?_
  refine WL.val1 (R_assign (v := .nilIface) rfl) ?_
  refine WL.nil ?_
  refine then_normal ?_
  refine WC.seq ?_
  refine WC.seq ?_
  refine WC.region ?_
  refine WL.val1 (R_move (v := .int .i64 (at_)) rfl) ?_
  refine WL.val1 (R_lss (a := at_) (b := 0) rfl rfl) ?_
  refine WL.val1 (R_move (v := .bool (decide (at_ < 0))) rfl) ?_
  refine WL.gpure (gd := (!(decide (at_ < 0)))) (yl_f (d := 15) rfl rfl) (fun hg => R_move (v := .int .i64 (at_)) rfl) ?_
  refine WL.gpure (gd := (!(decide (at_ < 0)))) (yl_f (d := 15) rfl rfl) (fun hg => R_move (v := .string (B (s))) rfl) ?_
  refine WL.gpure (gd := (!(decide (at_ < 0)))) (yl_f (d := 15) rfl rfl) (fun hg => R_slen (a := s) (gvT hg rfl) Tryd.underlying9) ?_
  refine WL.gpure (gd := (!(decide (at_ < 0)))) (yl_f (d := 15) rfl rfl) (fun hg => R_gtr (a := at_) (b := (((s).length : Nat) : Int)) (gvT hg rfl) (gvT hg rfl)) ?_
  refine WL.val1 (R_or (cb := decide (at_ < 0)) (yb := decide ((((s).length : Nat) : Int) < at_)) rfl rfl rfl) ?_
  refine WL.nil ?_
  refine then_normal ?_
  refine WC.condI ((at_ < 0 ∨ (((s).length : Nat) : Int) < at_)) (b := (decide (at_ < 0) || decide ((((s).length : Nat) : Int) < at_))) rfl (b_or b_dec b_dec) (fun c0 => ?_) (fun c0 => ?_)
  · skip
    refine WC.seq ?_
    refine WC.region ?_
    refine WL.val1 (R_move (v := .int .i64 (at_)) rfl) ?_
    refine WL.val1 (R_build (vs := [(0, .int .i64 (at_)), (1, .int .i64 (1))]) (v := .agg #[.int .i64 (at_), .int .i64 (1)]) rfl (fun _ => by kernel_rfl)) ?_
    refine S_box (l := [.int .i64 (at_), .int .i64 (1)]) (v := .agg #[.int .i64 (at_), .int .i64 (1)]) hS rfl rfl ?_
    intro w2 hS1
    obtain ⟨h3, hl4, hat5, hS6⟩ := hS1.commitRow (i := 0) rfl
    refine WL.val1 (R_makeInterface (v := .pointer (some ⟨w.heap.size, 0, none⟩)) rfl (fun _ => by kernel_rfl)) ?_
    refine WL.val1 (R_assign (v := .string (B (([] : Str)))) rfl) ?_
    refine WL.val1 (R_assign (v := .int .i64 (0)) rfl) ?_
    refine WL.val1 (R_assign (v := .iface 121 (.pointer (some ⟨w.heap.size, 0, none⟩))) rfl) ?_
    refine WL.nil ?_
    refine then_normal ?_
    refine WC.ret ?_
    refine then_ret ?_
    refine top_ret (.tuple #[.string (B (([] : Str))), .int .i64 (0), .iface 121 (.pointer (some ⟨w.heap.size, 0, none⟩))]) (gives3 rfl rfl rfl rfl) ?_
    have e_ := show getS s at_ top = _ from by unfold getS; rw [if_pos (by omega)]
    exact ⟨h3, hl4, ⟨w.heap.size, (by first | rfl | (rw [e_]; done) | (rw [e_]; rfl) | (simp; done)), (by first | exact ErrAt.of hat5 | (rw [e_]; exact ErrAt.of hat5))⟩, hS6.pop⟩
  · skip
    have hb := lenS_bd s at_.toNat (by omega)
    refine WC.skip ?_
    refine then_normal ?_
    refine WC.seq ?_
    refine WC.region ?_
    refine WL.val1 (R_move (v := .string (B (s))) rfl) ?_
    refine WL.val1 (R_move (v := .int .i64 (at_)) rfl) ?_
    refine S_callF (vs := [.string (B (s)), .int .i64 (at_)]) hS Tryd.call64 rfl (wire_length (s) (at_) (by first | assumption | omega) (by first | assumption | omega)) trivial ?_
    intro h9 v11 w8 hl10 hp12 hS7
    obtain ⟨b13, rfl, hf14⟩ := hp12
    refine WL.val1 (R_move (v := .tuple #[.int .i64 ((lenS s at_.toNat).1), .int .i64 ((lenS s at_.toNat).2.1), errV 121 ((lenS s at_.toNat).2.2) b13]) rfl) ?_
    refine WL.val1 (R_extract (vs := ([.int .i64 ((lenS s at_.toNat).1), .int .i64 ((lenS s at_.toNat).2.1), errV 121 ((lenS s at_.toNat).2.2) b13] : List Value).toArray) (v := .int .i64 ((lenS s at_.toNat).1)) rfl rfl) ?_
    refine WL.val1 (R_extract (vs := ([.int .i64 ((lenS s at_.toNat).1), .int .i64 ((lenS s at_.toNat).2.1), errV 121 ((lenS s at_.toNat).2.2) b13] : List Value).toArray) (v := .int .i64 ((lenS s at_.toNat).2.1)) rfl rfl) ?_
    refine WL.val1 (R_extract (vs := ([.int .i64 ((lenS s at_.toNat).1), .int .i64 ((lenS s at_.toNat).2.1), errV 121 ((lenS s at_.toNat).2.2) b13] : List Value).toArray) (v := errV 121 ((lenS s at_.toNat).2.2) b13) rfl rfl) ?_
    refine WL.val1 (R_assign (v := .int .i64 ((lenS s at_.toNat).1)) rfl) ?_
    refine WL.val1 (R_assign (v := .int .i64 ((lenS s at_.toNat).2.1)) rfl) ?_
    refine WL.val1 (R_assign (v := errV 121 ((lenS s at_.toNat).2.2) b13) rfl) ?_
    refine WL.nil ?_
    refine then_normal ?_
    refine WC.seq ?_
    refine WC.seq ?_
    refine WC.region ?_
    refine WL.val1 (R_move (v := errV 121 ((lenS s at_.toNat).2.2) b13) rfl) ?_
    refine WL.val1 (R_errNeq (e := (lenS s at_.toNat).2.2) (b := b13) (u := 121) rfl rfl (by kernel_rfl)) ?_
    refine WL.nil ?_
    refine then_normal ?_
    refine WC.condP ((lenS s at_.toNat).2.2 ≠ 0) rfl (fun c1 => ?_) (fun c1 => ?_)
    · skip
      refine WC.seq ?_
      refine WC.region ?_
      refine WL.val1 (R_move (v := errV 121 ((lenS s at_.toNat).2.2) b13) rfl) ?_
      refine WL.val1 (R_assign (v := .string (B (([] : Str)))) rfl) ?_
      refine WL.val1 (R_assign (v := .int .i64 (0)) rfl) ?_
      refine WL.val1 (R_assign (v := errV 121 ((lenS s at_.toNat).2.2) b13) rfl) ?_
      refine WL.nil ?_
      refine then_normal ?_
      refine WC.ret ?_
      refine then_ret ?_
      refine top_ret (.tuple #[.string (B (([] : Str))), .int .i64 (0), errV 121 ((lenS s at_.toNat).2.2) b13]) (gives3 rfl rfl rfl rfl) ?_
      have e_ := show getS s at_ top = _ from by unfold getS; rw [if_neg (by omega), if_pos (by omega)]
      exact ⟨h9, hl10, ⟨b13, (by first | rfl | (rw [e_]; done) | (rw [e_]; rfl) | (simp; done)), (by first | exact hf14 | (rw [e_]; exact hf14))⟩, hS7⟩
    · skip
      have hb5 := hb.2.2.2.2.1 (by omega)
      refine WC.skip ?_
      refine then_normal ?_
      refine WC.seq ?_
      refine WC.region ?_
      refine WL.val1 (R_move (v := .int .i64 ((lenS s at_.toNat).2.1)) rfl) ?_
      refine WL.val1 (R_move (v := .int .i64 ((lenS s at_.toNat).1)) rfl) ?_
      refine WL.val1 (R_add_i (a := (lenS s at_.toNat).2.1) (b := (lenS s at_.toNat).1) rfl rfl (by omega)) ?_
      refine WL.val1 (R_assign (v := .int .i64 (((lenS s at_.toNat).2.1 + (lenS s at_.toNat).1))) rfl) ?_
      refine WL.nil ?_
      refine then_normal ?_
      refine WC.seq ?_
      refine WC.block ?_
      refine WC.seq ?_
      refine WC.region ?_
      refine WL.val1 (R_move (v := .int .i64 ((lenS s at_.toNat).1)) rfl) ?_
      refine WL.val1 (R_move (v := .int .i64 (top)) rfl) ?_
      refine WL.val1 (R_max (a := 0) (b := top) rfl rfl) ?_
      refine WL.val1 (R_gtr (a := (lenS s at_.toNat).1) (b := (max (0) (top))) rfl rfl) ?_
      refine WL.val1 (R_assign (v := .bool (decide ((max (0) (top)) < (lenS s at_.toNat).1))) rfl) ?_
      refine WL.nil ?_
      refine then_normal ?_
      refine WC.condP ((max (0) (top)) < (lenS s at_.toNat).1) rfl (fun c2 => ?_) (fun c2 => ?_)
      · skip
        refine WC.seq ?_
        refine WC.region ?_
        refine WL.val1 (R_move (v := .int .i64 (at_)) rfl) ?_
        refine WL.val1 (R_build (vs := [(0, .int .i64 (at_)), (1, .int .i64 (3))]) (v := .agg #[.int .i64 (at_), .int .i64 (3)]) rfl (fun _ => by kernel_rfl)) ?_
        refine S_box (l := [.int .i64 (at_), .int .i64 (3)]) (v := .agg #[.int .i64 (at_), .int .i64 (3)]) hS7 rfl rfl ?_
        intro w16 hS15
        obtain ⟨h17, hl18, hat19, hS20⟩ := hS15.commitRow (i := 0) rfl
        refine WL.val1 (R_makeInterface (v := .pointer (some ⟨w8.heap.size, 0, none⟩)) rfl (fun _ => by kernel_rfl)) ?_
        refine WL.val1 (R_assign (v := .string (B (([] : Str)))) rfl) ?_
        refine WL.val1 (R_assign (v := .int .i64 (0)) rfl) ?_
        refine WL.val1 (R_assign (v := .iface 121 (.pointer (some ⟨w8.heap.size, 0, none⟩))) rfl) ?_
        refine WL.nil ?_
        refine then_normal ?_
        refine WC.ret ?_
        refine block_ret ?_
        refine then_ret ?_
        refine top_ret (.tuple #[.string (B (([] : Str))), .int .i64 (0), .iface 121 (.pointer (some ⟨w8.heap.size, 0, none⟩))]) (gives3 rfl rfl rfl rfl) ?_
        have e_ := show getS s at_ top = _ from by unfold getS; rw [if_neg (by omega), if_neg (by omega), if_pos (by omega)]
        exact ⟨h17, (hl10.trans hl18), ⟨w8.heap.size, (by first | rfl | (rw [e_]; done) | (rw [e_]; rfl) | (simp; done)), (by first | exact ErrAt.of hat19 | (rw [e_]; exact ErrAt.of hat19))⟩, hS20.pop⟩
      · skip
        refine WC.seq ?_
        refine WC.region ?_
        refine WL.val1 (R_move (v := .int .i64 (((lenS s at_.toNat).2.1 + (lenS s at_.toNat).1))) rfl) ?_
        refine WL.val1 (R_add_i (a := ((lenS s at_.toNat).2.1 + (lenS s at_.toNat).1)) (b := 1) rfl rfl (by omega)) ?_
        refine WL.val1 (R_move (v := .string (B (s))) rfl) ?_
        refine WL.val1 (R_slen (a := s) rfl Tryd.underlying9) ?_
        refine WL.val1 (R_gtr (a := (((lenS s at_.toNat).2.1 + (lenS s at_.toNat).1) + 1)) (b := (((s).length : Nat) : Int)) rfl rfl) ?_
        refine WL.val1 (R_assign (v := .bool (decide ((((s).length : Nat) : Int) < (((lenS s at_.toNat).2.1 + (lenS s at_.toNat).1) + 1)))) rfl) ?_
        refine WL.nil ?_
        refine then_normal ?_
        refine WC.condP ((((s).length : Nat) : Int) < (((lenS s at_.toNat).2.1 + (lenS s at_.toNat).1) + 1)) rfl (fun c3 => ?_) (fun c3 => ?_)
        · skip
          refine WC.seq ?_
          refine WC.region ?_
          refine WL.val1 (R_move (v := .int .i64 (((lenS s at_.toNat).2.1 + (lenS s at_.toNat).1))) rfl) ?_
          refine WL.val1 (R_build (vs := [(0, .int .i64 (((lenS s at_.toNat).2.1 + (lenS s at_.toNat).1))), (1, .int .i64 (6))]) (v := .agg #[.int .i64 (((lenS s at_.toNat).2.1 + (lenS s at_.toNat).1)), .int .i64 (6)]) rfl (fun _ => by kernel_rfl)) ?_
          refine S_box (l := [.int .i64 (((lenS s at_.toNat).2.1 + (lenS s at_.toNat).1)), .int .i64 (6)]) (v := .agg #[.int .i64 (((lenS s at_.toNat).2.1 + (lenS s at_.toNat).1)), .int .i64 (6)]) hS7 rfl rfl ?_
          intro w22 hS21
          obtain ⟨h23, hl24, hat25, hS26⟩ := hS21.commitRow (i := 0) rfl
          refine WL.val1 (R_makeInterface (v := .pointer (some ⟨w8.heap.size, 0, none⟩)) rfl (fun _ => by kernel_rfl)) ?_
          refine WL.val1 (R_assign (v := .string (B (([] : Str)))) rfl) ?_
          refine WL.val1 (R_assign (v := .int .i64 (0)) rfl) ?_
          refine WL.val1 (R_assign (v := .iface 121 (.pointer (some ⟨w8.heap.size, 0, none⟩))) rfl) ?_
          refine WL.nil ?_
          refine then_normal ?_
          refine WC.ret ?_
          refine block_ret ?_
          refine then_ret ?_
          refine top_ret (.tuple #[.string (B (([] : Str))), .int .i64 (0), .iface 121 (.pointer (some ⟨w8.heap.size, 0, none⟩))]) (gives3 rfl rfl rfl rfl) ?_
          have e_ := show getS s at_ top = _ from by unfold getS; rw [if_neg (by omega), if_neg (by omega), if_neg (by omega), if_pos (by omega)]
          exact ⟨h23, (hl10.trans hl24), ⟨w8.heap.size, (by first | rfl | (rw [e_]; done) | (rw [e_]; rfl) | (simp; done)), (by first | exact ErrAt.of hat25 | (rw [e_]; exact ErrAt.of hat25))⟩, hS26.pop⟩
        · skip
          refine WC.seq ?_
          refine WC.region ?_
          refine WL.val1 (R_move (v := .string (B (s))) rfl) ?_
          refine WL.val1 (R_move (v := .int .i64 (((lenS s at_.toNat).2.1 + (lenS s at_.toNat).1))) rfl) ?_
          refine WL.val1 (R_sindex (a := s) (i := ((lenS s at_.toNat).2.1 + (lenS s at_.toNat).1)) (n := (((lenS s at_.toNat).2.1 + (lenS s at_.toNat).1)).toNat) rfl rfl Tryd.underlying9 (by first | rfl | (omega)) (by omega)) ?_
          have hb27 := at8_rng s (((lenS s at_.toNat).2.1 + (lenS s at_.toNat).1)).toNat
          refine WL.val1 (R_neq (a := (at8 s (((lenS s at_.toNat).2.1 + (lenS s at_.toNat).1)).toNat)) (b := 44) rfl rfl) ?_
          refine WL.val1 (R_assign (v := .bool (decide ((at8 s (((lenS s at_.toNat).2.1 + (lenS s at_.toNat).1)).toNat) ≠ 44))) rfl) ?_
          refine WL.nil ?_
          refine then_normal ?_
          refine WC.condP ((at8 s (((lenS s at_.toNat).2.1 + (lenS s at_.toNat).1)).toNat) ≠ 44) rfl (fun c4 => ?_) (fun c4 => ?_)
          · skip
            refine WC.seq ?_
            refine WC.region ?_
            refine WL.val1 (R_move (v := .int .i64 (((lenS s at_.toNat).2.1 + (lenS s at_.toNat).1))) rfl) ?_
            refine WL.val1 (R_build (vs := [(0, .int .i64 (((lenS s at_.toNat).2.1 + (lenS s at_.toNat).1))), (1, .int .i64 (5))]) (v := .agg #[.int .i64 (((lenS s at_.toNat).2.1 + (lenS s at_.toNat).1)), .int .i64 (5)]) rfl (fun _ => by kernel_rfl)) ?_
            refine S_box (l := [.int .i64 (((lenS s at_.toNat).2.1 + (lenS s at_.toNat).1)), .int .i64 (5)]) (v := .agg #[.int .i64 (((lenS s at_.toNat).2.1 + (lenS s at_.toNat).1)), .int .i64 (5)]) hS7 rfl rfl ?_
            intro w29 hS28
            obtain ⟨h30, hl31, hat32, hS33⟩ := hS28.commitRow (i := 0) rfl
            refine WL.val1 (R_makeInterface (v := .pointer (some ⟨w8.heap.size, 0, none⟩)) rfl (fun _ => by kernel_rfl)) ?_
            refine WL.val1 (R_assign (v := .string (B (([] : Str)))) rfl) ?_
            refine WL.val1 (R_assign (v := .int .i64 (0)) rfl) ?_
            refine WL.val1 (R_assign (v := .iface 121 (.pointer (some ⟨w8.heap.size, 0, none⟩))) rfl) ?_
            refine WL.nil ?_
            refine then_normal ?_
            refine WC.ret ?_
            refine block_ret ?_
            refine then_ret ?_
            refine top_ret (.tuple #[.string (B (([] : Str))), .int .i64 (0), .iface 121 (.pointer (some ⟨w8.heap.size, 0, none⟩))]) (gives3 rfl rfl rfl rfl) ?_
            have e_ := show getS s at_ top = _ from by unfold getS; rw [if_neg (by omega), if_neg (by omega), if_neg (by omega), if_neg (by omega), if_pos (by omega)]
            exact ⟨h30, (hl10.trans hl31), ⟨w8.heap.size, (by first | rfl | (rw [e_]; done) | (rw [e_]; rfl) | (simp; done)), (by first | exact ErrAt.of hat32 | (rw [e_]; exact ErrAt.of hat32))⟩, hS33.pop⟩
          · skip
            refine WC.skip ?_
            refine block_normal ?_
            refine then_normal ?_
            refine WC.seq ?_
            refine WC.region ?_
            refine WL.val1 (R_move (v := .string (B (s))) rfl) ?_
            refine WL.val1 (R_move (v := .int .i64 ((lenS s at_.toNat).2.1)) rfl) ?_
            refine WL.val1 (R_move (v := .int .i64 (((lenS s at_.toNat).2.1 + (lenS s at_.toNat).1))) rfl) ?_
            refine WL.val1 (R_sslice (a := s) (i := (lenS s at_.toNat).2.1) (j := ((lenS s at_.toNat).2.1 + (lenS s at_.toNat).1)) (m := ((lenS s at_.toNat).2.1).toNat) (n := (((lenS s at_.toNat).2.1 + (lenS s at_.toNat).1)).toNat) rfl rfl rfl Tryd.underlying9 (by first | rfl | (omega)) (by first | rfl | (omega)) (by omega) (by omega)) ?_
            refine WL.val1 (R_move (v := .int .i64 (((lenS s at_.toNat).2.1 + (lenS s at_.toNat).1))) rfl) ?_
            refine WL.val1 (R_add_i (a := ((lenS s at_.toNat).2.1 + (lenS s at_.toNat).1)) (b := 1) rfl rfl (by omega)) ?_
            refine WL.val1 (R_assign (v := .string (B (((s.take (((lenS s at_.toNat).2.1 + (lenS s at_.toNat).1)).toNat).drop ((lenS s at_.toNat).2.1).toNat)))) rfl) ?_
            refine WL.val1 (R_assign (v := .int .i64 ((((lenS s at_.toNat).2.1 + (lenS s at_.toNat).1) + 1))) rfl) ?_
            refine WL.val1 (R_assign (v := .nilIface) rfl) ?_
            refine WL.nil ?_
            refine then_normal ?_
            refine WC.ret ?_
            refine top_ret (.tuple #[.string (B (((s.take (((lenS s at_.toNat).2.1 + (lenS s at_.toNat).1)).toNat).drop ((lenS s at_.toNat).2.1).toNat))), .int .i64 ((((lenS s at_.toNat).2.1 + (lenS s at_.toNat).1) + 1)), .nilIface]) (gives3 rfl rfl rfl rfl) ?_
            have e_ := show getS s at_ top = _ from by unfold getS; rw [if_neg (by omega), if_neg (by omega), if_neg (by omega), if_neg (by omega), if_neg (by omega)]
            exact ⟨h9, hl10, ⟨0, (by first | rfl | (rw [e_]; done) | (rw [e_]; rfl) | (simp; done)), (by first | exact ErrAt.zero _ _ | (rw [e_]; exact ErrAt.zero _ _))⟩, hS7⟩
set_option maxHeartbeats 400000 in
theorem wire_Get (s : Str) (at_ : Int) (top : Int) (hs : s.length ≤ 1000000000) : PureC GG Tryd.prog 51 (fun _ => True) [.string (B (s)), .int .i64 (at_), .int .i64 (top)] (.tuple #[.string (B ((getS s at_ top).1)), .int .i64 ((getS s at_ top).2.1), .int .i64 ((getS s at_ top).2.2)]) := by
  intro Γ h L w hpre hS
  refine Ret.body Tryd.func51 rfl Tryd.ntmps51 (Nat.le_of_ble_eq_true rfl) ?_
  refine WC.seq ?_
  refine WC.region ?_
  refine WL.val1 (R_assign (v := .string (B (([] : Str)))) rfl) ?_
  refine WL.val1 (R_assign (v := .int .i64 (0)) rfl) ?_
  refine WL.val1 (R_assign (v := .int .i64 (0)) rfl) ?_
  refine WL.nil ?_
  refine then_normal ?_
  refine WC.seq ?_
  refine WC.region ?_
  refine WL.val1 (R_move (v := .string (B (s))) rfl) ?_
  refine WL.val1 (R_move (v := .int .i64 (at_)) rfl) ?_
  refine WL.val1 (R_move (v := .int .i64 (top)) rfl) ?_
  refine S_callF (vs := [.string (B (s)), .int .i64 (at_), .int .i64 (top)]) hS Tryd.call56 rfl (wire_get (s) (at_) (top) (by first | assumption | omega)) trivial ?_
  intro h3 v5 w2 hl4 hp6 hS1
  obtain ⟨b7, rfl, hf8⟩ := hp6
  refine WL.val1 (R_move (v := .tuple #[.string (B ((getS s at_ top).1)), .int .i64 ((getS s at_ top).2.1), errV 121 ((getS s at_ top).2.2) b7]) rfl) ?_
  refine WL.val1 (R_extract (vs := ([.string (B ((getS s at_ top).1)), .int .i64 ((getS s at_ top).2.1), errV 121 ((getS s at_ top).2.2) b7] : List Value).toArray) (v := .string (B ((getS s at_ top).1))) rfl rfl) ?_
  refine WL.val1 (R_extract (vs := ([.string (B ((getS s at_ top).1)), .int .i64 ((getS s at_ top).2.1), errV 121 ((getS s at_ top).2.2) b7] : List Value).toArray) (v := .int .i64 ((getS s at_ top).2.1)) rfl rfl) ?_
  refine WL.val1 (R_extract (vs := ([.string (B ((getS s at_ top).1)), .int .i64 ((getS s at_ top).2.1), errV 121 ((getS s at_ top).2.2) b7] : List Value).toArray) (v := errV 121 ((getS s at_ top).2.2) b7) rfl rfl) ?_
  refine WL.val1 (R_assign (v := .string (B ((getS s at_ top).1))) rfl) ?_
  refine WL.val1 (R_assign (v := .int .i64 ((getS s at_ top).2.1)) rfl) ?_
  refine WL.val1 (R_assign (v := errV 121 ((getS s at_ top).2.2) b7) rfl) ?_
  refine WL.nil ?_
  refine then_normal ?_
  refine WC.seq ?_
  refine WC.seq ?_
  refine WC.region ?_
  refine WL.val1 (R_move (v := errV 121 ((getS s at_ top).2.2) b7) rfl) ?_
  refine WL.val1 (R_errNeq (e := (getS s at_ top).2.2) (b := b7) (u := 121) rfl rfl (by kernel_rfl)) ?_
  refine WL.nil ?_
  refine then_normal ?_
  refine WC.condP ((getS s at_ top).2.2 ≠ 0) rfl (fun c0 => ?_) (fun c0 => ?_)
  · skip
    refine WC.seq ?_
    refine WC.region ?_
    refine WL.val1 (R_move (v := errV 121 ((getS s at_ top).2.2) b7) rfl) ?_
    refine S_callP (vs := [errV 121 ((getS s at_ top).2.2) b7]) hS1 Tryd.call57 rfl (wire_number ((getS s at_ top).2.2) (b7) (by first | assumption | omega)) hf8 ?_
    intro w10 hS9
    refine WL.val1 (R_assign (v := .string (B (([] : Str)))) rfl) ?_
    refine WL.val1 (R_assign (v := .int .i64 (0)) rfl) ?_
    refine WL.val1 (R_assign (v := .int .i64 (((getS s at_ top).2.2))) rfl) ?_
    refine WL.nil ?_
    refine then_normal ?_
    refine WC.ret ?_
    refine then_ret ?_
    refine top_ret (.tuple #[.string (B (([] : Str))), .int .i64 (0), .int .i64 (((getS s at_ top).2.2))]) (gives3 rfl rfl rfl rfl) ?_
    exact ⟨(by rw [(getS_err _ _ _ c0).1, (getS_err _ _ _ c0).2]), (hS9.weaken_h hl4)⟩
  · skip
    refine WC.skip ?_
    refine then_normal ?_
    refine WC.seq ?_
    refine WC.region ?_
    refine WL.val1 (R_move (v := .string (B ((getS s at_ top).1))) rfl) ?_
    refine WL.val1 (R_move (v := .int .i64 ((getS s at_ top).2.1)) rfl) ?_
    refine WL.val1 (R_assign (v := .string (B ((getS s at_ top).1))) rfl) ?_
    refine WL.val1 (R_assign (v := .int .i64 ((getS s at_ top).2.1)) rfl) ?_
    refine WL.val1 (R_assign (v := .int .i64 (0)) rfl) ?_
    refine WL.nil ?_
    refine then_normal ?_
    refine WC.ret ?_
    refine top_ret (.tuple #[.string (B ((getS s at_ top).1)), .int .i64 ((getS s at_ top).2.1), .int .i64 (0)]) (gives3 rfl rfl rfl rfl) ?_
    exact ⟨(by rw [show (getS s at_ top).2.2 = 0 by omega]), (hS1.weaken_h hl4)⟩
end Go.Stet
