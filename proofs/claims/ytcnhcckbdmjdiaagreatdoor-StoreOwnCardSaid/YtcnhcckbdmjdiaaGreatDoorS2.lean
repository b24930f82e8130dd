/- What the layers compute, in plain Lean, and laws about that. Each under the conditions that its own statement names. -/
import Derived.Test.YtcnhcckbdmjdiaaGreatDoorSeatS3
import Derived.Test.YtcnhcckbdmjdiaaGreatDoorBldS
import Derived.Test.YtcnhcckbdmjdiaaGreatDoorEng18
import Derived.Test.YtcnhcckbdmjdiaaGreatDoorSpecS1
import Derived.Test.YtcnhcckbdmjdiaaGreatDoorS1
set_option linter.all false
set_option linter.unusedSimpArgs false
set_option linter.unusedVariables false
namespace Go.Stet
open Go Go.Eng Go.Proofs
set_option maxHeartbeats 400000 in
theorem disk_Len (D : Dsk) (D_b : Nat) (D_held_b D_held_k : Nat) (D_pend_a : Option Addr) (D_pend_c : Nat)  : MutH GG Tryz.prog 25 (fun _ => True) [.pointer (some ⟨D_b, 0, none⟩)] (fun h => [row (D_b) [.bool (D.is), .int .i64 (D.left), .int .i64 (D.n), .map (some (D_held_b)), .slice (D_pend_a) (D.pend).length (D_pend_c)] 78, mpG Mwr (D_held_b) (D.held) (D_held_k), grow 80 RWr h (D.pend) (D_pend_a) (D_pend_c)]) (fun h A v => v = .int .i64 (D.n) ∧ A = [row (D_b) [.bool (D.is), .int .i64 (D.left), .int .i64 (D.n), .map (some (D_held_b)), .slice (D_pend_a) (D.pend).length (D_pend_c)] 78, mpG Mwr (D_held_b) (D.held) (D_held_k), grow 80 RWr h (D.pend) (D_pend_a) (D_pend_c)]) := by
  intro Γ h L w hpre hS
  refine Ret.body Tryz.func25 rfl Tryz.ntmps25 (Nat.le_of_ble_eq_true rfl) ?_
  have hS : St Γ h (row (D_b) [.bool (D.is), .int .i64 (D.left), .int .i64 (D.n), .map (some (D_held_b)), .slice (D_pend_a) (D.pend).length (D_pend_c)] 78 :: mpG Mwr (D_held_b) (D.held) (D_held_k) :: grow 80 RWr h (D.pend) (D_pend_a) (D_pend_c) :: L) w := hS
  refine WC.seq ?_
  refine WC.region ?_
  refine WL.val1 (R_assign (v := .int .i64 (0)) rfl) ?_
  refine WL.nil ?_
  refine then_normal ?_
  refine WC.seq ?_
  refine WC.region ?_
  refine WL.val1 (R_move (v := .pointer (some ⟨D_b, 0, none⟩)) rfl) ?_
  refine WL.val1 (R_nilCheck rfl) ?_
  refine WL.val1 (R_fieldAddr (b := D_b) (off := 0) (m := 2) rfl (fun _ => by kernel_rfl)) ?_
  refine WL.val1 (R_load (v := .int .i64 (D.n)) rfl (hS.has (i := 0) rfl) (Tryz.isAgg3 _) rfl) ?_
  refine WL.val1 (R_assign (v := .int .i64 (D.n)) rfl) ?_
  refine WL.nil ?_
  refine then_normal ?_
  refine WC.ret ?_
  refine top_ret (.int .i64 (D.n)) (gives1 rfl rfl) ?_
  exact ⟨[row (D_b) [.bool (D.is), .int .i64 (D.left), .int .i64 (D.n), .map (some (D_held_b)), .slice (D_pend_a) (D.pend).length (D_pend_c)] 78, mpG Mwr (D_held_b) (D.held) (D_held_k), grow 80 RWr h (D.pend) (D_pend_a) (D_pend_c)], ⟨(by first | rfl | (simp; done)), (by first | rfl | (rw [e_]; done) | (rw [e_]; rfl))⟩, hS⟩
set_option maxHeartbeats 400000 in
theorem disk_Pending (D : Dsk) (D_b : Nat) (D_held_b D_held_k : Nat) (D_pend_a : Option Addr) (D_pend_c : Nat)  : MutH GG Tryz.prog 44 (fun _ => True) [.pointer (some ⟨D_b, 0, none⟩)] (fun h => [row (D_b) [.bool (D.is), .int .i64 (D.left), .int .i64 (D.n), .map (some (D_held_b)), .slice (D_pend_a) (D.pend).length (D_pend_c)] 78, mpG Mwr (D_held_b) (D.held) (D_held_k), grow 80 RWr h (D.pend) (D_pend_a) (D_pend_c)]) (fun h A v => v = .int .i64 (((D.pend.length : Nat) : Int)) ∧ A = [row (D_b) [.bool (D.is), .int .i64 (D.left), .int .i64 (D.n), .map (some (D_held_b)), .slice (D_pend_a) (D.pend).length (D_pend_c)] 78, mpG Mwr (D_held_b) (D.held) (D_held_k), grow 80 RWr h (D.pend) (D_pend_a) (D_pend_c)]) := by
  intro Γ h L w hpre hS
  refine Ret.body Tryz.func44 rfl Tryz.ntmps44 (Nat.le_of_ble_eq_true rfl) ?_
  have hS : St Γ h (row (D_b) [.bool (D.is), .int .i64 (D.left), .int .i64 (D.n), .map (some (D_held_b)), .slice (D_pend_a) (D.pend).length (D_pend_c)] 78 :: mpG Mwr (D_held_b) (D.held) (D_held_k) :: grow 80 RWr h (D.pend) (D_pend_a) (D_pend_c) :: L) w := hS
  refine WC.seq ?_
  refine WC.region ?_
  refine WL.val1 (R_assign (v := .int .i64 (0)) rfl) ?_
  refine WL.nil ?_
  refine then_normal ?_
  refine WC.seq ?_
  refine WC.region ?_
  refine WL.val1 (R_move (v := .pointer (some ⟨D_b, 0, none⟩)) rfl) ?_
  refine WL.val1 (R_nilCheck rfl) ?_
  refine WL.val1 (R_fieldAddr (b := D_b) (off := 0) (m := 4) rfl (fun _ => by kernel_rfl)) ?_
  refine WL.val1 (R_load (v := .slice (D_pend_a) (D.pend).length (D_pend_c)) rfl (hS.has (i := 0) rfl) (Tryz.isAgg76 _) rfl) ?_
  refine WL.val1 (R_len_slice (n := (D.pend).length) rfl Tryz.underlying76) ?_
  refine WL.val1 (R_assign (v := .int .i64 ((((D.pend).length : Nat) : Int))) rfl) ?_
  refine WL.nil ?_
  refine then_normal ?_
  refine WC.ret ?_
  refine top_ret (.int .i64 ((((D.pend).length : Nat) : Int))) (gives1 rfl rfl) ?_
  exact ⟨[row (D_b) [.bool (D.is), .int .i64 (D.left), .int .i64 (D.n), .map (some (D_held_b)), .slice (D_pend_a) (D.pend).length (D_pend_c)] 78, mpG Mwr (D_held_b) (D.held) (D_held_k), grow 80 RWr h (D.pend) (D_pend_a) (D_pend_c)], ⟨(by first | rfl | (simp; done)), (by first | rfl | (rw [e_]; done) | (rw [e_]; rfl))⟩, hS⟩
set_option maxHeartbeats 400000 in
theorem disk_has (D : Dsk) (D_b : Nat) (D_held_b D_held_k : Nat) (D_pend_a : Option Addr) (D_pend_c : Nat) (i : Int)  : MutH GG Tryz.prog 47 (fun _ => True) [.pointer (some ⟨D_b, 0, none⟩), .int .i64 (i)] (fun h => [row (D_b) [.bool (D.is), .int .i64 (D.left), .int .i64 (D.n), .map (some (D_held_b)), .slice (D_pend_a) (D.pend).length (D_pend_c)] 78, mpG Mwr (D_held_b) (D.held) (D_held_k), grow 80 RWr h (D.pend) (D_pend_a) (D_pend_c)]) (fun h A v => v = .bool (hasD D i) ∧ A = [row (D_b) [.bool (D.is), .int .i64 (D.left), .int .i64 (D.n), .map (some (D_held_b)), .slice (D_pend_a) (D.pend).length (D_pend_c)] 78, mpG Mwr (D_held_b) (D.held) (D_held_k), grow 80 RWr h (D.pend) (D_pend_a) (D_pend_c)]) := by
  intro Γ h L w hpre hS
  refine Ret.body Tryz.func47 rfl Tryz.ntmps47 (Nat.le_of_ble_eq_true rfl) ?_
  have hS : St Γ h (row (D_b) [.bool (D.is), .int .i64 (D.left), .int .i64 (D.n), .map (some (D_held_b)), .slice (D_pend_a) (D.pend).length (D_pend_c)] 78 :: mpG Mwr (D_held_b) (D.held) (D_held_k) :: grow 80 RWr h (D.pend) (D_pend_a) (D_pend_c) :: L) w := hS
  refine WC.seq ?_
  refine WC.region ?_
  refine WL.val1 (R_assign (v := .bool (false)) rfl) ?_
  refine WL.nil ?_
  refine then_normal ?_
  refine WC.seq ?_
  refine WC.region ?_
  refine WL.val1 (R_move (v := .int .i64 (i)) rfl) ?_
  refine WL.val1 (R_geq (a := i) (b := 0) rfl rfl) ?_
  refine WL.val1 (R_move (v := .bool (decide (0 ≤ i))) rfl) ?_
  refine WL.gpure (gd := decide (0 ≤ i)) (yl_t (d := 7) rfl rfl) (fun hg => R_move (v := .int .i64 (i)) rfl) ?_
  refine WL.gpure (gd := decide (0 ≤ i)) (yl_t (d := 7) rfl rfl) (fun hg => R_move (v := .pointer (some ⟨D_b, 0, none⟩)) rfl) ?_
  refine WL.gpure (gd := decide (0 ≤ i)) (yl_t (d := 7) rfl rfl) (fun hg => R_nilCheck (gvT hg rfl)) ?_
  refine WL.gpure (gd := decide (0 ≤ i)) (yl_t (d := 7) rfl rfl) (fun hg => R_fieldAddr (b := D_b) (off := 0) (m := 2) (gvT hg rfl) (fun _ => by kernel_rfl)) ?_
  refine WL.gpure (gd := decide (0 ≤ i)) (yl_t (d := 7) rfl rfl) (fun hg => R_load (v := .int .i64 (D.n)) (gvT hg rfl) (hS.has (i := 0) rfl) (Tryz.isAgg3 _) rfl) ?_
  refine WL.gpure (gd := decide (0 ≤ i)) (yl_t (d := 7) rfl rfl) (fun hg => R_lss (a := i) (b := D.n) (gvT hg rfl) (gvT hg rfl)) ?_
  refine WL.val1 (R_and (cb := decide (0 ≤ i)) (yb := decide (i < D.n)) rfl rfl rfl) ?_
  refine WL.val1 (R_assign (v := .bool ((decide (0 ≤ i) && decide (i < D.n)))) rfl) ?_
  refine WL.nil ?_
  refine then_normal ?_
  refine WC.ret ?_
  refine top_ret (.bool ((decide (0 ≤ i) && decide (i < D.n)))) (gives1 rfl rfl) ?_
  exact ⟨[row (D_b) [.bool (D.is), .int .i64 (D.left), .int .i64 (D.n), .map (some (D_held_b)), .slice (D_pend_a) (D.pend).length (D_pend_c)] 78, mpG Mwr (D_held_b) (D.held) (D_held_k), grow 80 RWr h (D.pend) (D_pend_a) (D_pend_c)], ⟨(by first | rfl | (simp; done)), (by first | rfl | (rw [e_]; done) | (rw [e_]; rfl))⟩, hS⟩
set_option maxHeartbeats 400000 in
theorem disk_use (D : Dsk) (D_b : Nat) (D_held_b D_held_k : Nat) (D_pend_a : Option Addr) (D_pend_c : Nat)  : MutH GG Tryz.prog 48 (fun _ => True) [.pointer (some ⟨D_b, 0, none⟩)] (fun h => [row (D_b) [.bool (D.is), .int .i64 (D.left), .int .i64 (D.n), .map (some (D_held_b)), .slice (D_pend_a) (D.pend).length (D_pend_c)] 78, mpG Mwr (D_held_b) (D.held) (D_held_k), grow 80 RWr h (D.pend) (D_pend_a) (D_pend_c)]) (fun h A v => v = .bool ((!outD D)) ∧ A = [row (D_b) [.bool (D.is), .int .i64 (useL D), .int .i64 (D.n), .map (some (D_held_b)), .slice (D_pend_a) (D.pend).length (D_pend_c)] 78, mpG Mwr (D_held_b) (D.held) (D_held_k), grow 80 RWr h (D.pend) (D_pend_a) (D_pend_c)]) := by
  intro Γ h L w hpre hS
  refine Ret.body Tryz.func48 rfl Tryz.ntmps48 (Nat.le_of_ble_eq_true rfl) ?_
  have hS : St Γ h (row (D_b) [.bool (D.is), .int .i64 (D.left), .int .i64 (D.n), .map (some (D_held_b)), .slice (D_pend_a) (D.pend).length (D_pend_c)] 78 :: mpG Mwr (D_held_b) (D.held) (D_held_k) :: grow 80 RWr h (D.pend) (D_pend_a) (D_pend_c) :: L) w := hS
  refine WC.seq ?_
  refine WC.region ?_
  refine WL.val1 (R_assign (v := .bool (false)) rfl) ?_
  refine WL.nil ?_
  refine then_normal ?_
  refine WC.seq ?_
  refine WC.seq ?_
  refine WC.region ?_
  refine WL.val1 (R_move (v := .pointer (some ⟨D_b, 0, none⟩)) rfl) ?_
  refine WL.val1 (R_nilCheck rfl) ?_
  refine WL.val1 (R_fieldAddr (b := D_b) (off := 0) (m := 0) rfl (fun _ => by kernel_rfl)) ?_
  refine WL.val1 (R_load (v := .bool (D.is)) rfl (hS.has (i := 0) rfl) (Tryz.isAgg4 _) rfl) ?_
  refine WL.val1 (R_move (v := .bool (D.is)) rfl) ?_
  refine WL.gpure (gd := D.is) (yl_t (d := 7) rfl rfl) (fun hg => R_move (v := .pointer (some ⟨D_b, 0, none⟩)) rfl) ?_
  refine WL.gpure (gd := D.is) (yl_t (d := 7) rfl rfl) (fun hg => R_nilCheck (gvT hg rfl)) ?_
  refine WL.gpure (gd := D.is) (yl_t (d := 7) rfl rfl) (fun hg => R_fieldAddr (b := D_b) (off := 0) (m := 1) (gvT hg rfl) (fun _ => by kernel_rfl)) ?_
  refine WL.gpure (gd := D.is) (yl_t (d := 7) rfl rfl) (fun hg => R_load (v := .int .i64 (D.left)) (gvT hg rfl) (hS.has (i := 0) rfl) (Tryz.isAgg3 _) rfl) ?_
  refine WL.gpure (gd := D.is) (yl_t (d := 7) rfl rfl) (fun hg => R_lss (a := D.left) (b := 1) (gvT hg rfl) rfl) ?_
  refine WL.val1 (R_and (cb := D.is) (yb := decide (D.left < 1)) rfl rfl rfl) ?_
  refine WL.nil ?_
  refine then_normal ?_
  refine WC.condI (((D.is) = true ∧ D.left < 1)) (b := (D.is && decide (D.left < 1))) rfl (b_and Iff.rfl b_dec) (fun c0 => ?_) (fun c0 => ?_)
  · skip
    refine WC.seq ?_
    refine WC.region ?_
    refine WL.val1 (R_assign (v := .bool (false)) rfl) ?_
    refine WL.nil ?_
    refine then_normal ?_
    refine WC.ret ?_
    refine then_ret ?_
    refine top_ret (.bool (false)) (gives1 rfl rfl) ?_
    have e_ : useL D = D.left := useL_no (by unfold outD; simp [c0.1, c0.2])
    have e2_ : outD D = true := by unfold outD; simp [c0.1, c0.2]
    exact ⟨[row (D_b) [.bool (D.is), .int .i64 (D.left), .int .i64 (D.n), .map (some (D_held_b)), .slice (D_pend_a) (D.pend).length (D_pend_c)] 78, mpG Mwr (D_held_b) (D.held) (D_held_k), grow 80 RWr h (D.pend) (D_pend_a) (D_pend_c)], ⟨(by rw [e2_]; rfl), (by first | rfl | (rw [e_]; done) | (rw [e_]; rfl))⟩, hS⟩
  · skip
    refine WC.skip ?_
    refine then_normal ?_
    refine WC.seq ?_
    refine WC.region ?_
    refine WL.val1 (R_move (v := .pointer (some ⟨D_b, 0, none⟩)) rfl) ?_
    refine WL.val1 (R_nilCheck rfl) ?_
    refine WL.val1 (R_fieldAddr (b := D_b) (off := 0) (m := 1) rfl (fun _ => by kernel_rfl)) ?_
    refine WL.val1 (R_load (v := .int .i64 (D.left)) rfl (hS.has (i := 0) rfl) (Tryz.isAgg3 _) rfl) ?_
    refine WL.val1 (R_sub (a := D.left) (b := 1) rfl rfl) ?_
    refine WL.val1 (R_nilCheck rfl) ?_
    refine WL.val1 (R_fieldAddr (b := D_b) (off := 0) (m := 1) rfl (fun _ => by kernel_rfl)) ?_
    refine S_store (i := 0) (b := D_b) (l := [.bool (D.is), .int .i64 (D.left), .int .i64 (D.n), .map (some (D_held_b)), .slice (D_pend_a) (D.pend).length (D_pend_c)]) (l' := [.bool (D.is), .int .i64 ((IntKind.i64.wrap (D.left - 1))), .int .i64 (D.n), .map (some (D_held_b)), .slice (D_pend_a) (D.pend).length (D_pend_c)]) (vs := [.int .i64 ((IntKind.i64.wrap (D.left - 1)))]) (v := .int .i64 ((IntKind.i64.wrap (D.left - 1)))) hS rfl rfl rfl Tryz.sizeOf3 rfl rfl rfl (Nat.le_of_ble_eq_true rfl) rfl rfl ?_
    intro w2 hS1
    refine WL.nil ?_
    refine then_normal ?_
    refine WC.seq ?_
    refine WC.region ?_
    refine WL.val1 (R_assign (v := .bool (true)) rfl) ?_
    refine WL.nil ?_
    refine then_normal ?_
    refine WC.ret ?_
    refine top_ret (.bool (true)) (gives1 rfl rfl) ?_
    have e2_ : outD D = false := by unfold outD; rw [Bool.eq_false_iff]; simpa using c0
    have e_ := useL_yes e2_
    exact ⟨[row (D_b) [.bool (D.is), .int .i64 ((IntKind.i64.wrap (D.left - 1))), .int .i64 (D.n), .map (some (D_held_b)), .slice (D_pend_a) (D.pend).length (D_pend_c)] 78, mpG Mwr (D_held_b) (D.held) (D_held_k), grow 80 RWr h (D.pend) (D_pend_a) (D_pend_c)], ⟨(by rw [e2_]; rfl), (by first | rfl | (rw [e_]; done) | (rw [e_]; rfl))⟩, hS1⟩
set_option maxHeartbeats 400000 in
theorem disk_Limit (D : Dsk) (D_b : Nat) (D_held_b D_held_k : Nat) (D_pend_a : Option Addr) (D_pend_c : Nat) (k : Int)  : MutH GG Tryz.prog 19 (fun _ => True) [.pointer (some ⟨D_b, 0, none⟩), .int .i64 (k)] (fun h => [row (D_b) [.bool (D.is), .int .i64 (D.left), .int .i64 (D.n), .map (some (D_held_b)), .slice (D_pend_a) (D.pend).length (D_pend_c)] 78, mpG Mwr (D_held_b) (D.held) (D_held_k), grow 80 RWr h (D.pend) (D_pend_a) (D_pend_c)]) (fun h A v => v = .tuple #[] ∧ A = [row (D_b) [.bool (true), .int .i64 (k), .int .i64 (D.n), .map (some (D_held_b)), .slice (D_pend_a) (D.pend).length (D_pend_c)] 78, mpG Mwr (D_held_b) (D.held) (D_held_k), grow 80 RWr h (D.pend) (D_pend_a) (D_pend_c)]) := by
  intro Γ h L w hpre hS
  refine Ret.body Tryz.func19 rfl Tryz.ntmps19 (Nat.le_of_ble_eq_true rfl) ?_
  have hS : St Γ h (row (D_b) [.bool (D.is), .int .i64 (D.left), .int .i64 (D.n), .map (some (D_held_b)), .slice (D_pend_a) (D.pend).length (D_pend_c)] 78 :: mpG Mwr (D_held_b) (D.held) (D_held_k) :: grow 80 RWr h (D.pend) (D_pend_a) (D_pend_c) :: L) w := hS
  refine WC.region ?_
  refine WL.val1 (R_move (v := .pointer (some ⟨D_b, 0, none⟩)) rfl) ?_
  refine WL.val1 (R_move (v := .int .i64 (k)) rfl) ?_
  refine WL.val1 (R_build (vs := [(0, .bool (true)), (1, .int .i64 (k))]) (v := .agg #[.bool (true), .int .i64 (k)]) rfl (fun _ => by kernel_rfl)) ?_
  refine WL.val1 (R_nilCheck rfl) ?_
  refine WL.val1 (R_fieldAddr (b := D_b) (off := 0) (m := 0) rfl (fun _ => by kernel_rfl)) ?_
  refine S_store (i := 0) (b := D_b) (l := [.bool (D.is), .int .i64 (D.left), .int .i64 (D.n), .map (some (D_held_b)), .slice (D_pend_a) (D.pend).length (D_pend_c)]) (l' := [.bool (true), .int .i64 (k), .int .i64 (D.n), .map (some (D_held_b)), .slice (D_pend_a) (D.pend).length (D_pend_c)]) (vs := [.bool (true), .int .i64 (k)]) (v := .agg #[.bool (true), .int .i64 (k)]) hS rfl rfl rfl Tryz.sizeOf74 rfl rfl rfl (Nat.le_of_ble_eq_true rfl) rfl rfl ?_
  intro w2 hS1
  refine WL.nil ?_
  refine top_normal (.tuple #[]) (gives0 rfl) ?_
  exact ⟨[row (D_b) [.bool (true), .int .i64 (k), .int .i64 (D.n), .map (some (D_held_b)), .slice (D_pend_a) (D.pend).length (D_pend_c)] 78, mpG Mwr (D_held_b) (D.held) (D_held_k), grow 80 RWr h (D.pend) (D_pend_a) (D_pend_c)], ⟨(by first | rfl | (simp; done)), (by first | rfl | (rw [e_]; done) | (rw [e_]; rfl))⟩, hS1⟩
set_option maxHeartbeats 400000 in
theorem disk_do (D : Dsk) (D_b : Nat) (D_held_b D_held_k : Nat) (D_pend_a : Option Addr) (D_pend_c : Nat) (x : Wr)  : MutH GG Tryz.prog 37 (fun _ => True) [.pointer (some ⟨D_b, 0, none⟩), .agg #[.int .i64 (x.i), .string (B (x.s))]] (fun h => [row (D_b) [.bool (D.is), .int .i64 (D.left), .int .i64 (D.n), .map (some (D_held_b)), .slice (D_pend_a) (D.pend).length (D_pend_c)] 78, mpG Mwr (D_held_b) (D.held) (D_held_k), grow 80 RWr h (D.pend) (D_pend_a) (D_pend_c)]) (fun h A v => ∃ (D_held_k1 : Nat), v = .tuple #[] ∧ A = [row (D_b) [.bool (D.is), .int .i64 (D.left), .int .i64 (D.n), .map (some (D_held_b)), .slice (D_pend_a) (D.pend).length (D_pend_c)] 78, mpG Mwr (D_held_b) (fputo D.held x.i x) (D_held_k1), grow 80 RWr h (D.pend) (D_pend_a) (D_pend_c)]) := by
  intro Γ h L w hpre hS
  refine Ret.body Tryz.func37 rfl Tryz.ntmps37 (Nat.le_of_ble_eq_true rfl) ?_
  have hS : St Γ h (row (D_b) [.bool (D.is), .int .i64 (D.left), .int .i64 (D.n), .map (some (D_held_b)), .slice (D_pend_a) (D.pend).length (D_pend_c)] 78 :: mpG Mwr (D_held_b) (D.held) (D_held_k) :: grow 80 RWr h (D.pend) (D_pend_a) (D_pend_c) :: L) w := hS
  refine WC.seq ?_
  refine WC.region ?_
  refine S_box (l := [.int .i64 (x.i), .string (B (x.s))]) (v := .agg #[.int .i64 (x.i), .string (B (x.s))]) hS rfl rfl ?_
  intro w2 hS1
  refine WL.nil ?_
  refine then_normal ?_
  refine WC.draw 7 [(0, .pointer (some ⟨D_b, 0, none⟩)), (3, .pointer (some ⟨w.heap.size, 0, none⟩))] [fun _ v => v = .pointer (some ⟨D_b, 0, none⟩), fun _ v => v = .pointer (some ⟨D_b, 0, none⟩), fun _ v => v = .pointer (some ⟨D_b, 3, none⟩), fun _ v => v = .map (some (D_held_b)), fun _ v => v = .pointer (some ⟨w.heap.size, 0, none⟩), fun _ v => v = .int .i64 (x.i), fun _ v => v = .agg #[.int .i64 (x.i), .string (B (x.s))]] hS1 (by kernel_rfl) (by kernel_rfl) (MonoFs.pure (MonoFs.pure (MonoFs.pure (MonoFs.pure (MonoFs.pure (MonoFs.pure (MonoFs.pure MonoFs.nil))))))) ⟨rfl, rfl, trivial⟩ ⟨?_, ?_, ?_, ?_, ?_, ?_, ?_, trivial⟩ ?_
  · intro r_ w32 h33 hl34 hS31 hb_ hp_
    obtain ⟨b0_, b1_, _⟩ := hb_
    refine WL.val1 (R_move (v := .pointer (some ⟨D_b, 0, none⟩)) b0_) ?_
    refine WL.nil ?_
    exact ⟨rfl, _, _, rfl, (Hp.le_refl _), rfl, hS31⟩
  · intro r_ w36 h37 hl38 hS35 hb_ hp_
    obtain ⟨b0_, b1_, _⟩ := hb_
    obtain ⟨p0_, _⟩ := hp_
    have p0_ : r_ 4 = .pointer (some ⟨D_b, 0, none⟩) := p0_
    refine WL.val1 (R_nilCheck p0_) ?_
    refine WL.nil ?_
    exact ⟨rfl, _, _, rfl, (Hp.le_refl _), rfl, hS35⟩
  · intro r_ w40 h41 hl42 hS39 hb_ hp_
    obtain ⟨b0_, b1_, _⟩ := hb_
    obtain ⟨p0_, _⟩ := hp_
    have p0_ : r_ 5 = .pointer (some ⟨D_b, 0, none⟩) := p0_
    refine WL.val1 (R_fieldAddr (b := D_b) (off := 0) (m := 3) p0_ (fun _ => by kernel_rfl)) ?_
    refine WL.nil ?_
    exact ⟨rfl, _, _, rfl, (Hp.le_refl _), rfl, hS39⟩
  · intro r_ w44 h45 hl46 hS43 hb_ hp_
    obtain ⟨b0_, b1_, _⟩ := hb_
    obtain ⟨p0_, _⟩ := hp_
    have p0_ : r_ 6 = .pointer (some ⟨D_b, 3, none⟩) := p0_
    refine WL.val1 (R_load (v := .map (some (D_held_b))) p0_ (hS43.has (i := 1) rfl) (Tryz.isAgg75 _) rfl) ?_
    refine WL.nil ?_
    exact ⟨rfl, _, _, rfl, (Hp.le_refl _), rfl, hS43⟩
  · intro r_ w48 h49 hl50 hS47 hb_ hp_
    obtain ⟨b0_, b1_, _⟩ := hb_
    refine WL.val1 (R_fieldAddr (b := w.heap.size) (off := 0) (m := 0) b1_ (fun _ => by kernel_rfl)) ?_
    refine WL.nil ?_
    exact ⟨rfl, _, _, rfl, (Hp.le_refl _), rfl, hS47⟩
  · intro r_ w52 h53 hl54 hS51 hb_ hp_
    obtain ⟨b0_, b1_, _⟩ := hb_
    obtain ⟨p0_, _⟩ := hp_
    have p0_ : r_ 8 = .pointer (some ⟨w.heap.size, 0, none⟩) := p0_
    refine WL.val1 (R_load (v := .int .i64 (x.i)) p0_ (hS51.has (i := 0) rfl) (Tryz.isAgg3 _) rfl) ?_
    refine WL.nil ?_
    exact ⟨rfl, _, _, rfl, (Hp.le_refl _), rfl, hS51⟩
  · intro r_ w56 h57 hl58 hS55 hb_ hp_
    obtain ⟨b0_, b1_, _⟩ := hb_
    refine WL.val1 (R_loadA (cs := [.int .i64 (x.i), .string (B (x.s))]) b1_ (hS55.has (i := 0) rfl) (Tryz.isAgg80 _) (Tryz.sizeOf80 _) rfl (sub_cells rfl)) ?_
    refine WL.nil ?_
    exact ⟨rfl, _, _, rfl, (Hp.le_refl _), rfl, hS55⟩
  · intro r_ w60 h61 hl62 hS59 hb_ hf_
    obtain ⟨b0_, b1_, _⟩ := hb_
    have q3_ := AF.get hf_ 3 (d := 7) rfl rfl
    have q5_ := AF.get hf_ 5 (d := 9) rfl rfl
    have q6_ := AF.get hf_ 6 (d := 10) rfl rfl
    refine WL.frame [(0, .pointer (some ⟨D_b, 0, none⟩)), (3, .pointer (some ⟨w.heap.size, 0, none⟩)), (7, .map (some (D_held_b))), (9, .int .i64 (x.i)), (10, .agg #[.int .i64 (x.i), .string (B (x.s))])] ⟨b0_, b1_, q3_, q5_, q6_, trivial⟩ (fun r_ => ?_)
    refine S_mapUpdateG (i := 2) (b := D_held_b) (f := D.held) (m := D_held_k) (k := x.i) (v := x) hS59 rfl rfl rfl rfl Tryz.underlying75 Tryz.underlying3 rfl ?_
    intro w64 hS63
    refine WL.nil ?_
    refine top_normal (.tuple #[]) (gives0 rfl) ?_
    have hS65 : St Γ h61 (row (D_b) [.bool (D.is), .int .i64 (D.left), .int .i64 (D.n), .map (some (D_held_b)), .slice (D_pend_a) (D.pend).length (D_pend_c)] 78 :: mpG Mwr (D_held_b) (fputo D.held x.i x) (if D.held x.i = none then D_held_k + 1 else D_held_k) :: grow 80 RWr h (D.pend) (D_pend_a) (D_pend_c) :: L) w64 := ((((hS63.move (i := 3) rfl).move (i := 3) rfl).move (i := 3) rfl).remove 3)
    exact ⟨[row (D_b) [.bool (D.is), .int .i64 (D.left), .int .i64 (D.n), .map (some (D_held_b)), .slice (D_pend_a) (D.pend).length (D_pend_c)] 78, mpG Mwr (D_held_b) (fputo D.held x.i x) (if D.held x.i = none then D_held_k + 1 else D_held_k), grow 80 RWr h (D.pend) (D_pend_a) (D_pend_c)], ⟨if D.held x.i = none then D_held_k + 1 else D_held_k, (by first | rfl | (simp; done)), (by first | rfl | (rw [e_]; done) | (rw [e_]; rfl))⟩, (hS65.weaken_h hl62)⟩
set_option maxHeartbeats 400000 in
theorem disk_Write (D : Dsk) (D_b : Nat) (D_held_b D_held_k : Nat) (D_pend_a : Option Addr) (D_pend_c : Nat) (i : Int) (s : Str) (hp : D.pend.length ≤ 1000000) : MutH GG Tryz.prog 30 (fun _ => True) [.pointer (some ⟨D_b, 0, none⟩), .int .i64 (i), .string (B (s))] (fun h => [row (D_b) [.bool (D.is), .int .i64 (D.left), .int .i64 (D.n), .map (some (D_held_b)), .slice (D_pend_a) (D.pend).length (D_pend_c)] 78, mpG Mwr (D_held_b) (D.held) (D_held_k), grow 80 RWr h (D.pend) (D_pend_a) (D_pend_c)]) (fun h A v => ∃ (D_held_k1 : Nat) (D_pend_a1 : Option Addr) (D_pend_c1 : Nat), v = .int .i64 ((wrD D i s).2) ∧ A = [row (D_b) [.bool (((wrD D i s).1).is), .int .i64 (((wrD D i s).1).left), .int .i64 (((wrD D i s).1).n), .map (some (D_held_b)), .slice (D_pend_a1) (((wrD D i s).1).pend).length (D_pend_c1)] 78, mpG Mwr (D_held_b) (((wrD D i s).1).held) (D_held_k1), grow 80 RWr h (((wrD D i s).1).pend) (D_pend_a1) (D_pend_c1)]) := by
  intro Γ h L w hpre hS
  refine Ret.body Tryz.func30 rfl Tryz.ntmps30 (Nat.le_of_ble_eq_true rfl) ?_
  have hS : St Γ h (row (D_b) [.bool (D.is), .int .i64 (D.left), .int .i64 (D.n), .map (some (D_held_b)), .slice (D_pend_a) (D.pend).length (D_pend_c)] 78 :: mpG Mwr (D_held_b) (D.held) (D_held_k) :: grow 80 RWr h (D.pend) (D_pend_a) (D_pend_c) :: L) w := hS
  refine WC.seq ?_
  refine WC.region ?_
  refine WL.val1 (R_assign (v := .int .i64 (0)) rfl) ?_
  refine WL.nil ?_
  refine then_normal ?_
  refine WC.seq ?_
  refine WC.block ?_
  refine WC.seq ?_
  refine WC.region ?_
  refine WL.val1 (R_move (v := .pointer (some ⟨D_b, 0, none⟩)) rfl) ?_
  refine WL.val1 (R_move (v := .int .i64 (i)) rfl) ?_
  refine S_callH (vs := [.pointer (some ⟨D_b, 0, none⟩), .int .i64 (i)]) (A := fun hh_ => [row (D_b) [.bool (D.is), .int .i64 (D.left), .int .i64 (D.n), .map (some (D_held_b)), .slice (D_pend_a) (D.pend).length (D_pend_c)] 78, mpG Mwr (D_held_b) (D.held) (D_held_k), grow 80 RWr hh_ (D.pend) (D_pend_a) (D_pend_c)]) (L := L) hS Tryz.call47 rfl (disk_has (D) (D_b) (D_held_b) (D_held_k) (D_pend_a) (D_pend_c) (i)) trivial ?_
  intro A3 v4 w2 hp5 hS1
  obtain ⟨rfl, rfl⟩ := hp5
  have hS1 : St Γ h (row (D_b) [.bool (D.is), .int .i64 (D.left), .int .i64 (D.n), .map (some (D_held_b)), .slice (D_pend_a) (D.pend).length (D_pend_c)] 78 :: mpG Mwr (D_held_b) (D.held) (D_held_k) :: grow 80 RWr h (D.pend) (D_pend_a) (D_pend_c) :: L) w2 := hS1
  refine WL.val1 (R_not (b := hasD D i) rfl) ?_
  refine WL.val1 (R_assign (v := .bool ((!(hasD D i)))) rfl) ?_
  refine WL.nil ?_
  refine then_normal ?_
  refine WC.condI (¬ ((hasD D i) = true)) (b := (!(hasD D i))) rfl (b_not Iff.rfl) (fun c0 => ?_) (fun c0 => ?_)
  · skip
    refine WC.seq ?_
    refine WC.region ?_
    refine WL.val1 (R_assign (v := .int .i64 (1)) rfl) ?_
    refine WL.nil ?_
    refine then_normal ?_
    refine WC.ret ?_
    refine block_ret ?_
    refine then_ret ?_
    refine top_ret (.int .i64 (1)) (gives1 rfl rfl) ?_
    have e_ : wrD D i s = (D, 1) := by unfold wrD; rw [if_pos (by simpa using c0)]
    exact ⟨[row (D_b) [.bool (D.is), .int .i64 (D.left), .int .i64 (D.n), .map (some (D_held_b)), .slice (D_pend_a) (D.pend).length (D_pend_c)] 78, mpG Mwr (D_held_b) (D.held) (D_held_k), grow 80 RWr h (D.pend) (D_pend_a) (D_pend_c)], ⟨D_held_k, D_pend_a, D_pend_c, (by first | rfl | (rw [e_]; done) | (rw [e_]; rfl) | (simp; done)), (by first | rfl | (rw [e_]; done) | (rw [e_]; rfl))⟩, hS1⟩
  · skip
    refine WC.seq ?_
    refine WC.region ?_
    refine WL.val1 (R_move (v := .string (B (s))) rfl) ?_
    refine WL.val1 (R_slen (a := s) rfl Tryz.underlying9) ?_
    refine WL.val1 (R_gtr (a := (((s).length : Nat) : Int)) (b := 64) rfl rfl) ?_
    refine WL.val1 (R_assign (v := .bool (decide (64 < (((s).length : Nat) : Int)))) rfl) ?_
    refine WL.nil ?_
    refine then_normal ?_
    refine WC.condP (64 < (((s).length : Nat) : Int)) rfl (fun c1 => ?_) (fun c1 => ?_)
    · skip
      refine WC.seq ?_
      refine WC.region ?_
      refine WL.val1 (R_assign (v := .int .i64 (3)) rfl) ?_
      refine WL.nil ?_
      refine then_normal ?_
      refine WC.ret ?_
      refine block_ret ?_
      refine then_ret ?_
      refine top_ret (.int .i64 (3)) (gives1 rfl rfl) ?_
      have e_ : wrD D i s = (D, 3) := by unfold wrD; rw [if_neg (by simpa using c0), if_pos (by omega)]
      exact ⟨[row (D_b) [.bool (D.is), .int .i64 (D.left), .int .i64 (D.n), .map (some (D_held_b)), .slice (D_pend_a) (D.pend).length (D_pend_c)] 78, mpG Mwr (D_held_b) (D.held) (D_held_k), grow 80 RWr h (D.pend) (D_pend_a) (D_pend_c)], ⟨D_held_k, D_pend_a, D_pend_c, (by first | rfl | (rw [e_]; done) | (rw [e_]; rfl) | (simp; done)), (by first | rfl | (rw [e_]; done) | (rw [e_]; rfl))⟩, hS1⟩
    · skip
      refine WC.seq ?_
      refine WC.region ?_
      refine WL.val1 (R_move (v := .pointer (some ⟨D_b, 0, none⟩)) rfl) ?_
      refine WL.val1 (R_nilCheck rfl) ?_
      refine WL.val1 (R_fieldAddr (b := D_b) (off := 0) (m := 0) rfl (fun _ => by kernel_rfl)) ?_
      refine S_callH (vs := [.pointer (some ⟨D_b, 0, none⟩)]) (A := fun hh_ => [row (D_b) [.bool (D.is), .int .i64 (D.left), .int .i64 (D.n), .map (some (D_held_b)), .slice (D_pend_a) (D.pend).length (D_pend_c)] 78, mpG Mwr (D_held_b) (D.held) (D_held_k), grow 80 RWr hh_ (D.pend) (D_pend_a) (D_pend_c)]) (L := L) hS1 Tryz.call48 rfl (disk_use (D) (D_b) (D_held_b) (D_held_k) (D_pend_a) (D_pend_c)) trivial ?_
      intro A8 v9 w7 hp10 hS6
      obtain ⟨rfl, rfl⟩ := hp10
      have hS6 : St Γ h (row (D_b) [.bool (D.is), .int .i64 (useL D), .int .i64 (D.n), .map (some (D_held_b)), .slice (D_pend_a) (D.pend).length (D_pend_c)] 78 :: mpG Mwr (D_held_b) (D.held) (D_held_k) :: grow 80 RWr h (D.pend) (D_pend_a) (D_pend_c) :: L) w7 := hS6
      refine WL.val1 (R_not (b := (!outD D)) rfl) ?_
      refine WL.val1 (R_assign (v := .bool ((!((!outD D))))) rfl) ?_
      refine WL.nil ?_
      refine then_normal ?_
      refine WC.condI (¬ (((!outD D)) = true)) (b := (!((!outD D)))) rfl (b_not Iff.rfl) (fun c2 => ?_) (fun c2 => ?_)
      · skip
        refine WC.seq ?_
        refine WC.region ?_
        refine WL.val1 (R_assign (v := .int .i64 (8)) rfl) ?_
        refine WL.nil ?_
        refine then_normal ?_
        refine WC.ret ?_
        refine block_ret ?_
        refine then_ret ?_
        refine top_ret (.int .i64 (8)) (gives1 rfl rfl) ?_
        have e_ : wrD D i s = (⟨D.is, useL D, D.n, D.held, D.pend⟩, 8) := by unfold wrD; rw [if_neg (by simpa using c0), if_neg (by omega), if_pos (by simpa using c2)]
        exact ⟨[row (D_b) [.bool (D.is), .int .i64 (useL D), .int .i64 (D.n), .map (some (D_held_b)), .slice (D_pend_a) (D.pend).length (D_pend_c)] 78, mpG Mwr (D_held_b) (D.held) (D_held_k), grow 80 RWr h (D.pend) (D_pend_a) (D_pend_c)], ⟨D_held_k, D_pend_a, D_pend_c, (by first | rfl | (rw [e_]; done) | (rw [e_]; rfl) | (simp; done)), (by first | rfl | (rw [e_]; done) | (rw [e_]; rfl))⟩, hS6⟩
      · skip
        refine WC.skip ?_
        refine block_normal ?_
        refine then_normal ?_
        refine WC.seq ?_
        refine WC.region ?_
        refine WL.val1 (R_move (v := .pointer (some ⟨D_b, 0, none⟩)) rfl) ?_
        refine WL.val1 (R_move (v := .pointer (some ⟨D_b, 0, none⟩)) rfl) ?_
        refine WL.val1 (R_nilCheck rfl) ?_
        refine WL.val1 (R_fieldAddr (b := D_b) (off := 0) (m := 4) rfl (fun _ => by kernel_rfl)) ?_
        refine WL.val1 (R_load (v := .slice (D_pend_a) (D.pend).length (D_pend_c)) rfl (hS6.has (i := 0) rfl) (Tryz.isAgg76 _) rfl) ?_
        refine WL.val1 (R_move (v := .int .i64 (i)) rfl) ?_
        refine WL.val1 (R_move (v := .string (B (s))) rfl) ?_
        refine WL.val1 (R_build (vs := [(0, .int .i64 (i)), (1, .string (B (s)))]) (v := .agg #[.int .i64 (i), .string (B (s))]) rfl (fun _ => by kernel_rfl)) ?_
        refine S_buildSliceC (R := RWr) (m := 1) (vs := [(0, .agg #[.int .i64 (i), .string (B (s))])]) (cells := [.int .i64 (i), .string (B (s))]) (xs := [{ i := i, s := s : Wr }]) hS6 Tryz.underlying76 Tryz.sizeOf80 Tryz.zeroValue80 (by decide) (by decide) rfl (by kernel_rfl) (by exact (⟨[.int .i64 (i), .string (B (s))], _, rfl, rfl, rfl⟩ : Flat RWr _ [{ i := i, s := s : Wr }] _)) rfl ?_
        intro h13 b15 w12 hl14 hs16 hS11
        refine S_append (info := Tryz.t80) (R := RWr) (xs := D.pend) (ys := [{ i := i, s := s : Wr }]) (a := D_pend_a) (c := D_pend_c) 2 Tryz.underlying76 (by kernel_rfl) rfl rfl rfl (by decide) 24 rfl hS11 rfl hl14 hs16 rfl rfl (by (try simp only [List.length_append, List.length_cons, List.length_nil]); omega) (by (try simp only [List.length_append, List.length_cons, List.length_nil]); omega) ?_
        intro a17 c18 w19 hS20
        refine WL.val1 (R_nilCheck rfl) ?_
        refine WL.val1 (R_fieldAddr (b := D_b) (off := 0) (m := 4) rfl (fun _ => by kernel_rfl)) ?_
        refine S_store (i := 0) (b := D_b) (l := [.bool (D.is), .int .i64 (useL D), .int .i64 (D.n), .map (some (D_held_b)), .slice (D_pend_a) (D.pend).length (D_pend_c)]) (l' := [.bool (D.is), .int .i64 (useL D), .int .i64 (D.n), .map (some (D_held_b)), .slice (a17) ((D.pend ++ [{ i := i, s := s : Wr }])).length (c18)]) (vs := [.slice (a17) ((D.pend ++ [{ i := i, s := s : Wr }])).length (c18)]) (v := .slice (a17) ((D.pend ++ [{ i := i, s := s : Wr }])).length (c18)) hS20 rfl rfl rfl Tryz.sizeOf76 rfl rfl rfl (Nat.le_of_ble_eq_true rfl) rfl rfl ?_
        intro w22 hS21
        refine WL.nil ?_
        refine then_normal ?_
        refine WC.seq ?_
        refine WC.region ?_
        refine WL.val1 (R_assign (v := .int .i64 (0)) rfl) ?_
        refine WL.nil ?_
        refine then_normal ?_
        refine WC.ret ?_
        refine top_ret (.int .i64 (0)) (gives1 rfl rfl) ?_
        have e_ : wrD D i s = (⟨D.is, useL D, D.n, D.held, D.pend ++ [⟨i, s⟩]⟩, 0) := by unfold wrD; rw [if_neg (by simpa using c0), if_neg (by omega), if_neg (by simpa using c2)]
        exact ⟨[row (D_b) [.bool (D.is), .int .i64 (useL D), .int .i64 (D.n), .map (some (D_held_b)), .slice (a17) ((D.pend ++ [{ i := i, s := s : Wr }])).length (c18)] 78, mpG Mwr (D_held_b) (D.held) (D_held_k), grow 80 RWr h ((D.pend ++ [{ i := i, s := s : Wr }])) (a17) (c18)], ⟨D_held_k, a17, c18, (by first | rfl | (rw [e_]; done) | (rw [e_]; rfl) | (simp; done)), (by first | rfl | (rw [e_]; done) | (rw [e_]; rfl))⟩, ((hS21.growFree (i := 2) h RWr_free rfl).weaken_h hl14)⟩
end Go.Stet
