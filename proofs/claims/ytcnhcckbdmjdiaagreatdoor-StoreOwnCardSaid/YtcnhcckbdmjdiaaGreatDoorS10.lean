/- What the layers compute, in plain Lean, and laws about that. Each under the conditions that its own statement names. -/
import Derived.Test.YtcnhcckbdmjdiaaGreatDoorSeatS3
import Derived.Test.YtcnhcckbdmjdiaaGreatDoorBldS
import Derived.Test.YtcnhcckbdmjdiaaGreatDoorEng18
import Derived.Test.YtcnhcckbdmjdiaaGreatDoorSpecS1
import Derived.Test.YtcnhcckbdmjdiaaGreatDoorSpecS2
import Derived.Test.YtcnhcckbdmjdiaaGreatDoorS9
set_option linter.all false
set_option linter.unusedSimpArgs false
set_option linter.unusedVariables false
namespace Go.Stet
open Go Go.Eng Go.Proofs
set_option maxHeartbeats 400000 in
theorem store_OpenNo (D : Dsk) (D_b : Nat) (D_held_b D_held_k : Nat) (D_pend_a : Option Addr) (D_pend_c : Nat) (hn : D.n < 4) : MutH GG Tryz.prog 18 (fun _ => True) [.pointer (some ⟨D_b, 0, none⟩)] (fun h => [row (D_b) [.bool (D.is), .int .i64 (D.left), .int .i64 (D.n), .map (some (D_held_b)), .slice (D_pend_a) (D.pend).length (D_pend_c)] 78, mpG Mwr (D_held_b) (D.held) (D_held_k), grow 80 RWr h (D.pend) (D_pend_a) (D_pend_c)]) (fun h A v => v = .tuple #[.pointer none, .int .i64 (1)] ∧ A = [row (D_b) [.bool (D.is), .int .i64 (D.left), .int .i64 (D.n), .map (some (D_held_b)), .slice (D_pend_a) (D.pend).length (D_pend_c)] 78, mpG Mwr (D_held_b) (D.held) (D_held_k), grow 80 RWr h (D.pend) (D_pend_a) (D_pend_c)]) := by
  intro Γ h L w hpre hS
  refine Ret.body Tryz.func18 rfl Tryz.ntmps18 (Nat.le_of_ble_eq_true rfl) ?_
  have hS : St Γ h (row (D_b) [.bool (D.is), .int .i64 (D.left), .int .i64 (D.n), .map (some (D_held_b)), .slice (D_pend_a) (D.pend).length (D_pend_c)] 78 :: mpG Mwr (D_held_b) (D.held) (D_held_k) :: grow 80 RWr h (D.pend) (D_pend_a) (D_pend_c) :: L) w := hS
  refine WC.seq ?_
  refine WC.region ?_
  refine WL.val1 (R_assign (v := .pointer none) rfl) ?_
  refine WL.val1 (R_assign (v := .int .i64 (0)) rfl) ?_
  refine WL.nil ?_
  refine then_normal ?_
  refine WC.seq ?_
  refine WC.seq ?_
  refine WC.region ?_
  refine WL.val1 (R_move (v := .pointer (some ⟨D_b, 0, none⟩)) rfl) ?_
  refine S_callH (vs := [.pointer (some ⟨D_b, 0, none⟩)]) (A := fun hh_ => [row (D_b) [.bool (D.is), .int .i64 (D.left), .int .i64 (D.n), .map (some (D_held_b)), .slice (D_pend_a) (D.pend).length (D_pend_c)] 78, mpG Mwr (D_held_b) (D.held) (D_held_k), grow 80 RWr hh_ (D.pend) (D_pend_a) (D_pend_c)]) (L := L) hS Tryz.call25 rfl (disk_Len (D) (D_b) (D_held_b) (D_held_k) (D_pend_a) (D_pend_c)) trivial ?_
  intro A3 v4 w2 hp5 hS1
  obtain ⟨rfl, rfl⟩ := hp5
  have hS1 : St Γ h (row (D_b) [.bool (D.is), .int .i64 (D.left), .int .i64 (D.n), .map (some (D_held_b)), .slice (D_pend_a) (D.pend).length (D_pend_c)] 78 :: mpG Mwr (D_held_b) (D.held) (D_held_k) :: grow 80 RWr h (D.pend) (D_pend_a) (D_pend_c) :: L) w2 := hS1
  refine WL.val1 (R_lss (a := D.n) (b := 4) rfl rfl) ?_
  refine WL.nil ?_
  refine then_normal ?_
  refine WC.condP (D.n < 4) rfl (fun c0 => ?_) (fun c0 => ?_)
  · skip
    refine WC.seq ?_
    refine WC.region ?_
    refine WL.val1 (R_assign (v := .pointer none) rfl) ?_
    refine WL.val1 (R_assign (v := .int .i64 (1)) rfl) ?_
    refine WL.nil ?_
    refine then_normal ?_
    refine WC.ret ?_
    refine then_ret ?_
    refine top_ret (.tuple #[.pointer none, .int .i64 (1)]) (gives2 rfl rfl rfl) ?_
    exact ⟨[row (D_b) [.bool (D.is), .int .i64 (D.left), .int .i64 (D.n), .map (some (D_held_b)), .slice (D_pend_a) (D.pend).length (D_pend_c)] 78, mpG Mwr (D_held_b) (D.held) (D_held_k), grow 80 RWr h (D.pend) (D_pend_a) (D_pend_c)], ⟨(by first | rfl | (simp; done)), (by first | rfl | (rw [e_]; done) | (rw [e_]; rfl))⟩, hS1⟩
  · skip
    omega
set_option maxHeartbeats 400000 in
theorem law_On (n : Int) (hn : 4 ≤ n ∧ n ≤ 4096) : MutH GG Tryz.prog 10 (fun _ => True) [.int .i64 (n)] (fun h => []) (fun h A v => ∃ (S1_b : Nat) (S1_files_a : Option Addr) (S1_files_c : Nat) (D1_b : Nat) (D1_held_b : Nat) (D1_held_k : Nat) (D1_pend_a : Option Addr) (D1_pend_c : Nat), v = .tuple #[.pointer (some ⟨S1_b, 0, none⟩), .pointer (some ⟨D1_b, 0, none⟩)] ∧ A = [row (S1_b) [.pointer (some ⟨D1_b, 0, none⟩), .int .i64 (emptyS.g0), .int .i64 (emptyS.z0), .int .i64 (emptyS.g1), .int .i64 (emptyS.z1), .slice (S1_files_a) (emptyS.files).length (S1_files_c)] 60, grow 29 RFile h (emptyS.files) (S1_files_a) (S1_files_c), row (D1_b) [.bool ((newD n).is), .int .i64 ((newD n).left), .int .i64 ((newD n).n), .map (some (D1_held_b)), .slice (D1_pend_a) ((newD n).pend).length (D1_pend_c)] 78, mpG Mwr (D1_held_b) ((newD n).held) (D1_held_k), grow 80 RWr h ((newD n).pend) (D1_pend_a) (D1_pend_c)]) := by
  intro Γ h L w hpre hS
  refine Ret.body Tryz.func10 rfl Tryz.ntmps10 (Nat.le_of_ble_eq_true rfl) ?_
  have hS : St Γ h (L) w := hS
  refine WC.seq ?_
  refine WC.region ?_
  refine WL.val1 (R_assign (v := .pointer none) rfl) ?_
  refine WL.val1 (R_assign (v := .pointer none) rfl) ?_
  refine WL.nil ?_
  refine then_normal ?_
  refine WC.seq ?_
  refine WC.region ?_
  refine WL.val1 (R_move (v := .int .i64 (n)) rfl) ?_
  refine S_callH (vs := [.int .i64 (n)]) (A := fun hh_ => []) (L := L) hS Tryz.call22 rfl (disk_New (n) (by first | assumption | omega)) trivial ?_
  intro A3 v4 w2 hp5 hS1
  obtain ⟨D1_b6, D1_held_b7, D1_held_k8, D1_pend_a9, D1_pend_c10, rfl, rfl⟩ := hp5
  have hS1 : St Γ h (row (D1_b6) [.bool ((newD n).is), .int .i64 ((newD n).left), .int .i64 ((newD n).n), .map (some (D1_held_b7)), .slice (D1_pend_a9) ((newD n).pend).length (D1_pend_c10)] 78 :: mpG Mwr (D1_held_b7) ((newD n).held) (D1_held_k8) :: grow 80 RWr h ((newD n).pend) (D1_pend_a9) (D1_pend_c10) :: L) w2 := hS1
  refine WL.val1 (R_move (v := .tuple #[.pointer (some ⟨D1_b6, 0, none⟩), .int .i64 (0)]) rfl) ?_
  refine WL.val1 (R_extract (vs := ([.pointer (some ⟨D1_b6, 0, none⟩), .int .i64 (0)] : List Value).toArray) (v := .pointer (some ⟨D1_b6, 0, none⟩)) rfl rfl) ?_
  refine WL.val1 (R_extract (vs := ([.pointer (some ⟨D1_b6, 0, none⟩), .int .i64 (0)] : List Value).toArray) (v := .int .i64 (0)) rfl rfl) ?_
  refine WL.val1 (R_assign (v := .pointer (some ⟨D1_b6, 0, none⟩)) rfl) ?_
  refine WL.val1 (R_assign (v := .int .i64 (0)) rfl) ?_
  refine WL.nil ?_
  refine then_normal ?_
  refine WC.seq ?_
  refine WC.seq ?_
  refine WC.region ?_
  refine WL.val1 (R_move (v := .pointer (some ⟨D1_b6, 0, none⟩)) rfl) ?_
  refine WL.val1 (R_ptrEql rfl rfl Tryz.underlying24) ?_
  refine WL.val1 (R_move (v := .bool (false)) rfl) ?_
  refine WL_unguard (yl_eq (d := 15) rfl rfl) ?_
  refine WL.val1 (R_move (v := .int .i64 (0)) rfl) ?_
  refine WL_unguard (yl_eq (d := 15) rfl rfl) ?_
  refine WL.val1 (R_cast (R_neq (a := 0) (b := 0) rfl rfl) (bool_false (by decide))) ?_
  refine WL.val1 (R_pick (cb := false) (v := .bool (false)) rfl (fun h => by cases h) (fun _ => rfl)) ?_
  refine WL.nil ?_
  refine then_normal ?_
  refine WC.condF rfl ?_
  refine WC.skip ?_
  refine then_normal ?_
  refine WC.seq ?_
  refine WC.region ?_
  refine WL.val1 (R_move (v := .pointer (some ⟨D1_b6, 0, none⟩)) rfl) ?_
  refine S_callH (vs := [.pointer (some ⟨D1_b6, 0, none⟩)]) (A := fun hh_ => [row (D1_b6) [.bool ((newD n).is), .int .i64 ((newD n).left), .int .i64 ((newD n).n), .map (some (D1_held_b7)), .slice (D1_pend_a9) ((newD n).pend).length (D1_pend_c10)] 78, mpG Mwr (D1_held_b7) ((newD n).held) (D1_held_k8), grow 80 RWr hh_ ((newD n).pend) (D1_pend_a9) (D1_pend_c10)]) (L := L) hS1 Tryz.call18 rfl (store_Open (newD n) (D1_b6) (D1_held_b7) (D1_held_k8) (D1_pend_a9) (D1_pend_c10) (emptyS) (([] : Str)) hn rfl (open_new n hn.1)) trivial ?_
  intro A13 v14 w12 hp15 hS11
  obtain ⟨S1_b16, S1_files_a17, S1_files_c18, rfl, rfl⟩ := hp15
  have hS11 : St Γ h (row (D1_b6) [.bool ((newD n).is), .int .i64 ((newD n).left), .int .i64 ((newD n).n), .map (some (D1_held_b7)), .slice (D1_pend_a9) ((newD n).pend).length (D1_pend_c10)] 78 :: mpG Mwr (D1_held_b7) ((newD n).held) (D1_held_k8) :: grow 80 RWr h ((newD n).pend) (D1_pend_a9) (D1_pend_c10) :: row (S1_b16) [.pointer (some ⟨D1_b6, 0, none⟩), .int .i64 (emptyS.g0), .int .i64 (emptyS.z0), .int .i64 (emptyS.g1), .int .i64 (emptyS.z1), .slice (S1_files_a17) (emptyS.files).length (S1_files_c18)] 60 :: grow 29 RFile h (emptyS.files) (S1_files_a17) (S1_files_c18) :: L) w12 := hS11
  refine WL.val1 (R_move (v := .tuple #[.pointer (some ⟨S1_b16, 0, none⟩), .int .i64 (0)]) rfl) ?_
  refine WL.val1 (R_extract (vs := ([.pointer (some ⟨S1_b16, 0, none⟩), .int .i64 (0)] : List Value).toArray) (v := .pointer (some ⟨S1_b16, 0, none⟩)) rfl rfl) ?_
  refine WL.val1 (R_extract (vs := ([.pointer (some ⟨S1_b16, 0, none⟩), .int .i64 (0)] : List Value).toArray) (v := .int .i64 (0)) rfl rfl) ?_
  refine WL.val1 (R_assign (v := .pointer (some ⟨S1_b16, 0, none⟩)) rfl) ?_
  refine WL.val1 (R_assign (v := .int .i64 (0)) rfl) ?_
  refine WL.nil ?_
  refine then_normal ?_
  refine WC.seq ?_
  refine WC.seq ?_
  refine WC.region ?_
  refine WL.val1 (R_move (v := .int .i64 (0)) rfl) ?_
  refine WL.val1 (R_cast (R_neq (a := 0) (b := 0) rfl rfl) (bool_false (by decide))) ?_
  refine WL.nil ?_
  refine then_normal ?_
  refine WC.condF rfl ?_
  refine WC.skip ?_
  refine then_normal ?_
  refine WC.seq ?_
  refine WC.region ?_
  refine WL.val1 (R_move (v := .pointer (some ⟨S1_b16, 0, none⟩)) rfl) ?_
  refine WL.val1 (R_move (v := .pointer (some ⟨D1_b6, 0, none⟩)) rfl) ?_
  refine WL.val1 (R_assign (v := .pointer (some ⟨S1_b16, 0, none⟩)) rfl) ?_
  refine WL.val1 (R_assign (v := .pointer (some ⟨D1_b6, 0, none⟩)) rfl) ?_
  refine WL.nil ?_
  refine then_normal ?_
  refine WC.ret ?_
  refine top_ret (.tuple #[.pointer (some ⟨S1_b16, 0, none⟩), .pointer (some ⟨D1_b6, 0, none⟩)]) (gives2 rfl rfl rfl) ?_
  have hS19 : St Γ h (row (S1_b16) [.pointer (some ⟨D1_b6, 0, none⟩), .int .i64 (emptyS.g0), .int .i64 (emptyS.z0), .int .i64 (emptyS.g1), .int .i64 (emptyS.z1), .slice (S1_files_a17) (emptyS.files).length (S1_files_c18)] 60 :: grow 29 RFile h (emptyS.files) (S1_files_a17) (S1_files_c18) :: row (D1_b6) [.bool ((newD n).is), .int .i64 ((newD n).left), .int .i64 ((newD n).n), .map (some (D1_held_b7)), .slice (D1_pend_a9) ((newD n).pend).length (D1_pend_c10)] 78 :: mpG Mwr (D1_held_b7) ((newD n).held) (D1_held_k8) :: grow 80 RWr h ((newD n).pend) (D1_pend_a9) (D1_pend_c10) :: L) w12 := (((((hS11.move (i := 2) rfl).move (i := 2) rfl).move (i := 2) rfl).move (i := 4) rfl).move (i := 4) rfl)
  exact ⟨[row (S1_b16) [.pointer (some ⟨D1_b6, 0, none⟩), .int .i64 (emptyS.g0), .int .i64 (emptyS.z0), .int .i64 (emptyS.g1), .int .i64 (emptyS.z1), .slice (S1_files_a17) (emptyS.files).length (S1_files_c18)] 60, grow 29 RFile h (emptyS.files) (S1_files_a17) (S1_files_c18), row (D1_b6) [.bool ((newD n).is), .int .i64 ((newD n).left), .int .i64 ((newD n).n), .map (some (D1_held_b7)), .slice (D1_pend_a9) ((newD n).pend).length (D1_pend_c10)] 78, mpG Mwr (D1_held_b7) ((newD n).held) (D1_held_k8), grow 80 RWr h ((newD n).pend) (D1_pend_a9) (D1_pend_c10)], ⟨S1_b16, S1_files_a17, S1_files_c18, D1_b6, D1_held_b7, D1_held_k8, D1_pend_a9, D1_pend_c10, (by first | rfl | (simp; done)), (by first | rfl | (rw [e_]; done) | (rw [e_]; rfl))⟩, hS19⟩
set_option maxHeartbeats 400000 in
theorem law_OnNo (n : Int) (hn : 1 ≤ n ∧ n ≤ 3) : MutH GG Tryz.prog 10 (fun _ => True) [.int .i64 (n)] (fun h => []) (fun h A v => ∃ (D1_b : Nat) (D1_held_b : Nat) (D1_held_k : Nat) (D1_pend_a : Option Addr) (D1_pend_c : Nat), v = .tuple #[.pointer none, .pointer (some ⟨D1_b, 0, none⟩)] ∧ A = [row (D1_b) [.bool ((newD n).is), .int .i64 ((newD n).left), .int .i64 ((newD n).n), .map (some (D1_held_b)), .slice (D1_pend_a) ((newD n).pend).length (D1_pend_c)] 78, mpG Mwr (D1_held_b) ((newD n).held) (D1_held_k), grow 80 RWr h ((newD n).pend) (D1_pend_a) (D1_pend_c)]) := by
  intro Γ h L w hpre hS
  refine Ret.body Tryz.func10 rfl Tryz.ntmps10 (Nat.le_of_ble_eq_true rfl) ?_
  have hS : St Γ h (L) w := hS
  refine WC.seq ?_
  refine WC.region ?_
  refine WL.val1 (R_assign (v := .pointer none) rfl) ?_
  refine WL.val1 (R_assign (v := .pointer none) rfl) ?_
  refine WL.nil ?_
  refine then_normal ?_
  refine WC.seq ?_
  refine WC.region ?_
  refine WL.val1 (R_move (v := .int .i64 (n)) rfl) ?_
  refine S_callH (vs := [.int .i64 (n)]) (A := fun hh_ => []) (L := L) hS Tryz.call22 rfl (disk_New (n) (by first | assumption | omega)) trivial ?_
  intro A3 v4 w2 hp5 hS1
  obtain ⟨D1_b6, D1_held_b7, D1_held_k8, D1_pend_a9, D1_pend_c10, rfl, rfl⟩ := hp5
  have hS1 : St Γ h (row (D1_b6) [.bool ((newD n).is), .int .i64 ((newD n).left), .int .i64 ((newD n).n), .map (some (D1_held_b7)), .slice (D1_pend_a9) ((newD n).pend).length (D1_pend_c10)] 78 :: mpG Mwr (D1_held_b7) ((newD n).held) (D1_held_k8) :: grow 80 RWr h ((newD n).pend) (D1_pend_a9) (D1_pend_c10) :: L) w2 := hS1
  refine WL.val1 (R_move (v := .tuple #[.pointer (some ⟨D1_b6, 0, none⟩), .int .i64 (0)]) rfl) ?_
  refine WL.val1 (R_extract (vs := ([.pointer (some ⟨D1_b6, 0, none⟩), .int .i64 (0)] : List Value).toArray) (v := .pointer (some ⟨D1_b6, 0, none⟩)) rfl rfl) ?_
  refine WL.val1 (R_extract (vs := ([.pointer (some ⟨D1_b6, 0, none⟩), .int .i64 (0)] : List Value).toArray) (v := .int .i64 (0)) rfl rfl) ?_
  refine WL.val1 (R_assign (v := .pointer (some ⟨D1_b6, 0, none⟩)) rfl) ?_
  refine WL.val1 (R_assign (v := .int .i64 (0)) rfl) ?_
  refine WL.nil ?_
  refine then_normal ?_
  refine WC.seq ?_
  refine WC.seq ?_
  refine WC.region ?_
  refine WL.val1 (R_move (v := .pointer (some ⟨D1_b6, 0, none⟩)) rfl) ?_
  refine WL.val1 (R_ptrEql rfl rfl Tryz.underlying24) ?_
  refine WL.val1 (R_move (v := .bool (false)) rfl) ?_
  refine WL_unguard (yl_eq (d := 15) rfl rfl) ?_
  refine WL.val1 (R_move (v := .int .i64 (0)) rfl) ?_
  refine WL_unguard (yl_eq (d := 15) rfl rfl) ?_
  refine WL.val1 (R_cast (R_neq (a := 0) (b := 0) rfl rfl) (bool_false (by decide))) ?_
  refine WL.val1 (R_pick (cb := false) (v := .bool (false)) rfl (fun h => by cases h) (fun _ => rfl)) ?_
  refine WL.nil ?_
  refine then_normal ?_
  refine WC.condF rfl ?_
  refine WC.skip ?_
  refine then_normal ?_
  refine WC.seq ?_
  refine WC.region ?_
  refine WL.val1 (R_move (v := .pointer (some ⟨D1_b6, 0, none⟩)) rfl) ?_
  refine S_callH (vs := [.pointer (some ⟨D1_b6, 0, none⟩)]) (A := fun hh_ => [row (D1_b6) [.bool ((newD n).is), .int .i64 ((newD n).left), .int .i64 ((newD n).n), .map (some (D1_held_b7)), .slice (D1_pend_a9) ((newD n).pend).length (D1_pend_c10)] 78, mpG Mwr (D1_held_b7) ((newD n).held) (D1_held_k8), grow 80 RWr hh_ ((newD n).pend) (D1_pend_a9) (D1_pend_c10)]) (L := L) hS1 Tryz.call18 rfl (store_OpenNo (newD n) (D1_b6) (D1_held_b7) (D1_held_k8) (D1_pend_a9) (D1_pend_c10) (show n < 4 by omega)) trivial ?_
  intro A13 v14 w12 hp15 hS11
  obtain ⟨rfl, rfl⟩ := hp15
  have hS11 : St Γ h (row (D1_b6) [.bool ((newD n).is), .int .i64 ((newD n).left), .int .i64 ((newD n).n), .map (some (D1_held_b7)), .slice (D1_pend_a9) ((newD n).pend).length (D1_pend_c10)] 78 :: mpG Mwr (D1_held_b7) ((newD n).held) (D1_held_k8) :: grow 80 RWr h ((newD n).pend) (D1_pend_a9) (D1_pend_c10) :: L) w12 := hS11
  refine WL.val1 (R_move (v := .tuple #[.pointer none, .int .i64 (1)]) rfl) ?_
  refine WL.val1 (R_extract (vs := ([.pointer none, .int .i64 (1)] : List Value).toArray) (v := .pointer none) rfl rfl) ?_
  refine WL.val1 (R_extract (vs := ([.pointer none, .int .i64 (1)] : List Value).toArray) (v := .int .i64 (1)) rfl rfl) ?_
  refine WL.val1 (R_assign (v := .pointer none) rfl) ?_
  refine WL.val1 (R_assign (v := .int .i64 (1)) rfl) ?_
  refine WL.nil ?_
  refine then_normal ?_
  refine WC.seq ?_
  refine WC.seq ?_
  refine WC.region ?_
  refine WL.val1 (R_move (v := .int .i64 (1)) rfl) ?_
  refine WL.val1 (R_cast (R_neq (a := 1) (b := 0) rfl rfl) (bool_true (by decide))) ?_
  refine WL.nil ?_
  refine then_normal ?_
  refine WC.condT rfl ?_
  refine WC.seq ?_
  refine WC.region ?_
  refine WL.val1 (R_move (v := .pointer (some ⟨D1_b6, 0, none⟩)) rfl) ?_
  refine WL.val1 (R_assign (v := .pointer none) rfl) ?_
  refine WL.val1 (R_assign (v := .pointer (some ⟨D1_b6, 0, none⟩)) rfl) ?_
  refine WL.nil ?_
  refine then_normal ?_
  refine WC.ret ?_
  refine then_ret ?_
  refine top_ret (.tuple #[.pointer none, .pointer (some ⟨D1_b6, 0, none⟩)]) (gives2 rfl rfl rfl) ?_
  exact ⟨[row (D1_b6) [.bool ((newD n).is), .int .i64 ((newD n).left), .int .i64 ((newD n).n), .map (some (D1_held_b7)), .slice (D1_pend_a9) ((newD n).pend).length (D1_pend_c10)] 78, mpG Mwr (D1_held_b7) ((newD n).held) (D1_held_k8), grow 80 RWr h ((newD n).pend) (D1_pend_a9) (D1_pend_c10)], ⟨D1_b6, D1_held_b7, D1_held_k8, D1_pend_a9, D1_pend_c10, (by first | rfl | (simp; done)), (by first | rfl | (rw [e_]; done) | (rw [e_]; rfl))⟩, hS11⟩
set_option maxHeartbeats 1000000 in
theorem law_fixed   : PureC GG Tryz.prog 11 (fun _ => True) [] (.bool (true)) := by
  intro Γ h L w hpre hS
  obtain ⟨D1_, e1_, n1_, p1_, i1_, v1_⟩ := fix1
  have hn1_ : 4 ≤ D1_.n ∧ D1_.n ≤ 4096 := by rw [n1_]; decide
  have hp1_ : D1_.pend.length ≤ 1000 := by rw [p1_]; decide
  have hfx_ : fx50.length = 50 := rfl
  have hfx2_ : (fx50.take 10).length = 10 := rfl
  refine Ret.body Tryz.func11 rfl Tryz.ntmps11 (Nat.le_of_ble_eq_true rfl) ?_
  refine WC.seq ?_
  refine WC.region ?_
  refine WL.val1 (R_assign (v := .bool (false)) rfl) ?_
  refine WL.nil ?_
  refine then_normal ?_
  refine WC.seq ?_
  refine WC.region ?_
  refine S_callH (vs := [.int .i64 (4)]) (A := fun hh_ => []) (L := L) hS Tryz.call10 rfl (law_On (4) (by decide)) trivial ?_
  intro A3 v4 w2 hp5 hS1
  obtain ⟨S1_b6, S1_files_a7, S1_files_c8, D1_b9, D1_held_b10, D1_held_k11, D1_pend_a12, D1_pend_c13, rfl, rfl⟩ := hp5
  have hS1 : St Γ h (row (S1_b6) [.pointer (some ⟨D1_b9, 0, none⟩), .int .i64 (emptyS.g0), .int .i64 (emptyS.z0), .int .i64 (emptyS.g1), .int .i64 (emptyS.z1), .slice (S1_files_a7) (emptyS.files).length (S1_files_c8)] 60 :: grow 29 RFile h (emptyS.files) (S1_files_a7) (S1_files_c8) :: row (D1_b9) [.bool ((newD 4).is), .int .i64 ((newD 4).left), .int .i64 ((newD 4).n), .map (some (D1_held_b10)), .slice (D1_pend_a12) ((newD 4).pend).length (D1_pend_c13)] 78 :: mpG Mwr (D1_held_b10) ((newD 4).held) (D1_held_k11) :: grow 80 RWr h ((newD 4).pend) (D1_pend_a12) (D1_pend_c13) :: L) w2 := hS1
  refine WL.val1 (R_move (v := .tuple #[.pointer (some ⟨S1_b6, 0, none⟩), .pointer (some ⟨D1_b9, 0, none⟩)]) rfl) ?_
  refine WL.val1 (R_extract (vs := ([.pointer (some ⟨S1_b6, 0, none⟩), .pointer (some ⟨D1_b9, 0, none⟩)] : List Value).toArray) (v := .pointer (some ⟨S1_b6, 0, none⟩)) rfl rfl) ?_
  refine WL.val1 (R_extract (vs := ([.pointer (some ⟨S1_b6, 0, none⟩), .pointer (some ⟨D1_b9, 0, none⟩)] : List Value).toArray) (v := .pointer (some ⟨D1_b9, 0, none⟩)) rfl rfl) ?_
  refine WL.val1 (R_assign (v := .pointer (some ⟨S1_b6, 0, none⟩)) rfl) ?_
  refine WL.val1 (R_assign (v := .pointer (some ⟨D1_b9, 0, none⟩)) rfl) ?_
  refine WL.nil ?_
  refine then_normal ?_
  refine WC.seq ?_
  refine WC.region ?_
  refine S_callH (vs := [.int .i64 (3)]) (A := fun hh_ => []) (L := row (S1_b6) [.pointer (some ⟨D1_b9, 0, none⟩), .int .i64 (emptyS.g0), .int .i64 (emptyS.z0), .int .i64 (emptyS.g1), .int .i64 (emptyS.z1), .slice (S1_files_a7) (emptyS.files).length (S1_files_c8)] 60 :: grow 29 RFile h (emptyS.files) (S1_files_a7) (S1_files_c8) :: row (D1_b9) [.bool ((newD 4).is), .int .i64 ((newD 4).left), .int .i64 ((newD 4).n), .map (some (D1_held_b10)), .slice (D1_pend_a12) ((newD 4).pend).length (D1_pend_c13)] 78 :: mpG Mwr (D1_held_b10) ((newD 4).held) (D1_held_k11) :: grow 80 RWr h ((newD 4).pend) (D1_pend_a12) (D1_pend_c13) :: L) hS1 Tryz.call10 rfl (law_OnNo (3) (by decide)) trivial ?_
  intro A16 v17 w15 hp18 hS14
  obtain ⟨D1_b19, D1_held_b20, D1_held_k21, D1_pend_a22, D1_pend_c23, rfl, rfl⟩ := hp18
  have hS14 : St Γ h (row (D1_b19) [.bool ((newD 3).is), .int .i64 ((newD 3).left), .int .i64 ((newD 3).n), .map (some (D1_held_b20)), .slice (D1_pend_a22) ((newD 3).pend).length (D1_pend_c23)] 78 :: mpG Mwr (D1_held_b20) ((newD 3).held) (D1_held_k21) :: grow 80 RWr h ((newD 3).pend) (D1_pend_a22) (D1_pend_c23) :: row (S1_b6) [.pointer (some ⟨D1_b9, 0, none⟩), .int .i64 (emptyS.g0), .int .i64 (emptyS.z0), .int .i64 (emptyS.g1), .int .i64 (emptyS.z1), .slice (S1_files_a7) (emptyS.files).length (S1_files_c8)] 60 :: grow 29 RFile h (emptyS.files) (S1_files_a7) (S1_files_c8) :: row (D1_b9) [.bool ((newD 4).is), .int .i64 ((newD 4).left), .int .i64 ((newD 4).n), .map (some (D1_held_b10)), .slice (D1_pend_a12) ((newD 4).pend).length (D1_pend_c13)] 78 :: mpG Mwr (D1_held_b10) ((newD 4).held) (D1_held_k11) :: grow 80 RWr h ((newD 4).pend) (D1_pend_a12) (D1_pend_c13) :: L) w15 := hS14
  refine WL.val1 (R_move (v := .tuple #[.pointer none, .pointer (some ⟨D1_b19, 0, none⟩)]) rfl) ?_
  refine WL.val1 (R_extract (vs := ([.pointer none, .pointer (some ⟨D1_b19, 0, none⟩)] : List Value).toArray) (v := .pointer none) rfl rfl) ?_
  refine WL.val1 (R_extract (vs := ([.pointer none, .pointer (some ⟨D1_b19, 0, none⟩)] : List Value).toArray) (v := .pointer (some ⟨D1_b19, 0, none⟩)) rfl rfl) ?_
  refine WL.val1 (R_assign (v := .pointer none) rfl) ?_
  refine WL.val1 (R_assign (v := .pointer (some ⟨D1_b19, 0, none⟩)) rfl) ?_
  refine WL.nil ?_
  refine then_normal ?_
  refine WC.seq ?_
  refine WC.seq ?_
  refine WC.region ?_
  refine WL.val1 (R_move (v := .pointer (some ⟨S1_b6, 0, none⟩)) rfl) ?_
  refine WL.val1 (R_ptrEql rfl rfl Tryz.underlying23) ?_
  refine WL.val1 (R_move (v := .bool (false)) rfl) ?_
  refine WL_unguard (yl_eq (d := 24) rfl rfl) ?_
  refine WL.val1 (R_move (v := .pointer (some ⟨D1_b9, 0, none⟩)) rfl) ?_
  refine WL_unguard (yl_eq (d := 24) rfl rfl) ?_
  refine WL.val1 (R_ptrEql rfl rfl Tryz.underlying24) ?_
  refine WL.val1 (R_pick (cb := false) (v := .bool (false)) rfl (fun h => by cases h) (fun _ => rfl)) ?_
  refine WL.val1 (R_move (v := .bool (false)) rfl) ?_
  refine WL_unguard (yl_eq (d := 28) rfl rfl) ?_
  refine WL.val1 (R_move (v := .pointer (some ⟨D1_b19, 0, none⟩)) rfl) ?_
  refine WL_unguard (yl_eq (d := 28) rfl rfl) ?_
  refine WL.val1 (R_ptrEql rfl rfl Tryz.underlying24) ?_
  refine WL.val1 (R_pick (cb := false) (v := .bool (false)) rfl (fun h => by cases h) (fun _ => rfl)) ?_
  refine WL.nil ?_
  refine then_normal ?_
  refine WC.condF rfl ?_
  refine WC.skip ?_
  refine then_normal ?_
  refine WC.seq ?_
  refine WC.region ?_
  refine WL.val1 (R_assign (v := .string (B fx50)) rfl) ?_
  refine WL.nil ?_
  refine then_normal ?_
  refine WC.seq ?_
  refine WC.region ?_
  refine WL.val1 (R_move (v := .pointer (some ⟨S1_b6, 0, none⟩)) rfl) ?_
  refine WL.val1 (R_move (v := .string (B (fx50))) rfl) ?_
  refine WL.val1 (R_build (vs := [(0, .string (B (([97] : Str)))), (1, .string (B (fx50)))]) (v := .agg #[.string (B (([97] : Str))), .string (B (fx50))]) rfl (fun _ => by kernel_rfl)) ?_
  refine S_buildSliceC (R := RFile) (m := 1) (vs := [(0, .agg #[.string (B (([97] : Str))), .string (B (fx50))])]) (cells := [.string (B (([97] : Str))), .string (B (fx50))]) (xs := fl1) hS14 Tryz.underlying30 Tryz.sizeOf29 Tryz.zeroValue29 (by decide) (by decide) rfl (by kernel_rfl) (by exact (⟨[.string (B (([97] : Str))), .string (B (fx50))], _, rfl, rfl, rfl⟩ : Flat RFile _ fl1 _)) rfl ?_
  intro h26 b28 w25 hl27 hs29 hS24
  have hS32 := hS24.growMono (i := 2) rfl hl27
  have hS33 := hS32.growMono (i := 4) rfl hl27
  have hS34 := hS33.growMono (i := 7) rfl hl27
  have hS35 : St Γ h26 (row (S1_b6) [.pointer (some ⟨D1_b9, 0, none⟩), .int .i64 (emptyS.g0), .int .i64 (emptyS.z0), .int .i64 (emptyS.g1), .int .i64 (emptyS.z1), .slice (S1_files_a7) (emptyS.files).length (S1_files_c8)] 60 :: grow 29 RFile h26 (emptyS.files) (S1_files_a7) (S1_files_c8) :: row (D1_b9) [.bool ((newD 4).is), .int .i64 ((newD 4).left), .int .i64 ((newD 4).n), .map (some (D1_held_b10)), .slice (D1_pend_a12) ((newD 4).pend).length (D1_pend_c13)] 78 :: mpG Mwr (D1_held_b10) ((newD 4).held) (D1_held_k11) :: grow 80 RWr h26 ((newD 4).pend) (D1_pend_a12) (D1_pend_c13) :: row (D1_b19) [.bool ((newD 3).is), .int .i64 ((newD 3).left), .int .i64 ((newD 3).n), .map (some (D1_held_b20)), .slice (D1_pend_a22) ((newD 3).pend).length (D1_pend_c23)] 78 :: mpG Mwr (D1_held_b20) ((newD 3).held) (D1_held_k21) :: grow 80 RWr h26 ((newD 3).pend) (D1_pend_a22) (D1_pend_c23) :: emp :: emp :: emp :: emp :: emp :: L) w25 := (((((hS34.front (i := 7) rfl).front (i := 7) rfl).front (i := 7) rfl).front (i := 7) rfl).front (i := 7) rfl)
  refine S_callH (vs := [.pointer (some ⟨S1_b6, 0, none⟩), .slice (some ⟨b28, 0, none⟩) 1 (1)]) (A := fun hh_ => [row (S1_b6) [.pointer (some ⟨D1_b9, 0, none⟩), .int .i64 (emptyS.g0), .int .i64 (emptyS.z0), .int .i64 (emptyS.g1), .int .i64 (emptyS.z1), .slice (S1_files_a7) (emptyS.files).length (S1_files_c8)] 60, grow 29 RFile hh_ (emptyS.files) (S1_files_a7) (S1_files_c8), row (D1_b9) [.bool ((newD 4).is), .int .i64 ((newD 4).left), .int .i64 ((newD 4).n), .map (some (D1_held_b10)), .slice (D1_pend_a12) ((newD 4).pend).length (D1_pend_c13)] 78, mpG Mwr (D1_held_b10) ((newD 4).held) (D1_held_k11), grow 80 RWr hh_ ((newD 4).pend) (D1_pend_a12) (D1_pend_c13)]) (L := row (D1_b19) [.bool ((newD 3).is), .int .i64 ((newD 3).left), .int .i64 ((newD 3).n), .map (some (D1_held_b20)), .slice (D1_pend_a22) ((newD 3).pend).length (D1_pend_c23)] 78 :: mpG Mwr (D1_held_b20) ((newD 3).held) (D1_held_k21) :: grow 80 RWr h26 ((newD 3).pend) (D1_pend_a22) (D1_pend_c23) :: emp :: emp :: emp :: emp :: emp :: L) hS35 Tryz.call12 rfl (by have k_ := (store_Commit (emptyS) (S1_b6) (S1_files_a7) (S1_files_c8) (newD 4) (D1_b9) (D1_held_b10) (D1_held_k11) (D1_pend_a12) (D1_pend_c13) (fl1) (some ⟨b28, 0, none⟩) (1) (by decide) (by decide) (by decide) fix_sz1 (by decide)); rw [e1_] at k_; exact k_) (by exact hs29) ?_
  intro A36 v37 w31 hp38 hS30
  obtain ⟨S_files_a139, S_files_c140, D_held_k141, D_pend_a142, D_pend_c143, rfl, rfl⟩ := hp38
  have hS30 : St Γ h26 (row (S1_b6) [.pointer (some ⟨D1_b9, 0, none⟩), .int .i64 (((aftS emptyS fl1)).g0), .int .i64 (((aftS emptyS fl1)).z0), .int .i64 (((aftS emptyS fl1)).g1), .int .i64 (((aftS emptyS fl1)).z1), .slice (S_files_a139) (((aftS emptyS fl1)).files).length (S_files_c140)] 60 :: grow 29 RFile h26 (((aftS emptyS fl1)).files) (S_files_a139) (S_files_c140) :: row (D1_b9) [.bool (D1_.is), .int .i64 (D1_.left), .int .i64 (D1_.n), .map (some (D1_held_b10)), .slice (D_pend_a142) (D1_.pend).length (D_pend_c143)] 78 :: mpG Mwr (D1_held_b10) (D1_.held) (D_held_k141) :: grow 80 RWr h26 (D1_.pend) (D_pend_a142) (D_pend_c143) :: row (D1_b19) [.bool ((newD 3).is), .int .i64 ((newD 3).left), .int .i64 ((newD 3).n), .map (some (D1_held_b20)), .slice (D1_pend_a22) ((newD 3).pend).length (D1_pend_c23)] 78 :: mpG Mwr (D1_held_b20) ((newD 3).held) (D1_held_k21) :: grow 80 RWr h26 ((newD 3).pend) (D1_pend_a22) (D1_pend_c23) :: emp :: emp :: emp :: emp :: emp :: L) w31 := hS30
  have hS44 : St Γ h26 (row (D1_b19) [.bool ((newD 3).is), .int .i64 ((newD 3).left), .int .i64 ((newD 3).n), .map (some (D1_held_b20)), .slice (D1_pend_a22) ((newD 3).pend).length (D1_pend_c23)] 78 :: mpG Mwr (D1_held_b20) ((newD 3).held) (D1_held_k21) :: grow 80 RWr h26 ((newD 3).pend) (D1_pend_a22) (D1_pend_c23) :: row (S1_b6) [.pointer (some ⟨D1_b9, 0, none⟩), .int .i64 (((aftS emptyS fl1)).g0), .int .i64 (((aftS emptyS fl1)).z0), .int .i64 (((aftS emptyS fl1)).g1), .int .i64 (((aftS emptyS fl1)).z1), .slice (S_files_a139) (((aftS emptyS fl1)).files).length (S_files_c140)] 60 :: grow 29 RFile h26 (((aftS emptyS fl1)).files) (S_files_a139) (S_files_c140) :: row (D1_b9) [.bool (D1_.is), .int .i64 (D1_.left), .int .i64 (D1_.n), .map (some (D1_held_b10)), .slice (D_pend_a142) (D1_.pend).length (D_pend_c143)] 78 :: mpG Mwr (D1_held_b10) (D1_.held) (D_held_k141) :: grow 80 RWr h26 (D1_.pend) (D_pend_a142) (D_pend_c143) :: L) w31 := (St.back2 (i := 7) (St.back2 (i := 7) (St.back2 (i := 7) (St.back2 (i := 7) (St.back2 (i := 7) hS30 rfl) rfl) rfl) rfl) rfl)
  refine WL.val1 (R_assign (v := .int .i64 (0)) rfl) ?_
  refine WL.nil ?_
  refine then_normal ?_
  refine WC.seq ?_
  refine WC.region ?_
  refine WL.val1 (R_move (v := .pointer (some ⟨S1_b6, 0, none⟩)) rfl) ?_
  refine WL.val1 (R_move (v := .string (B (fx50))) rfl) ?_
  refine WL.val1 (R_move (v := .string (B (fx50))) rfl) ?_
  refine WL.val1 (R_sslice_h (a := fx50) (j := 10) (n := 10) rfl rfl Tryz.underlying9 (by first | rfl | (omega)) (by omega)) ?_
  refine WL.val1 (R_sadd (a := fx50) (b := (fx50.take 10)) rfl rfl (by (try simp only [List.length_append, List.length_cons, List.length_nil]); omega)) ?_
  refine WL.val1 (R_build (vs := [(0, .string (B (([97] : Str)))), (1, .string (B ((fx50 ++ (fx50.take 10)))))]) (v := .agg #[.string (B (([97] : Str))), .string (B ((fx50 ++ (fx50.take 10))))]) rfl (fun _ => by kernel_rfl)) ?_
  refine S_buildSliceC (R := RFile) (m := 1) (vs := [(0, .agg #[.string (B (([97] : Str))), .string (B ((fx50 ++ (fx50.take 10))))])]) (cells := [.string (B (([97] : Str))), .string (B ((fx50 ++ (fx50.take 10))))]) (xs := fl2) hS44 Tryz.underlying30 Tryz.sizeOf29 Tryz.zeroValue29 (by decide) (by decide) rfl (by kernel_rfl) (by exact (⟨[.string (B (([97] : Str))), .string (B ((fx50 ++ (fx50.take 10))))], _, rfl, rfl, rfl⟩ : Flat RFile _ fl2 _)) rfl ?_
  intro h47 b49 w46 hl48 hs50 hS45
  have hS53 := hS45.growMono (i := 2) rfl hl48
  have hS54 := hS53.growMono (i := 4) rfl hl48
  have hS55 := hS54.growMono (i := 7) rfl hl48
  have hS56 : St Γ h47 (row (S1_b6) [.pointer (some ⟨D1_b9, 0, none⟩), .int .i64 (((aftS emptyS fl1)).g0), .int .i64 (((aftS emptyS fl1)).z0), .int .i64 (((aftS emptyS fl1)).g1), .int .i64 (((aftS emptyS fl1)).z1), .slice (S_files_a139) (((aftS emptyS fl1)).files).length (S_files_c140)] 60 :: grow 29 RFile h47 (((aftS emptyS fl1)).files) (S_files_a139) (S_files_c140) :: row (D1_b9) [.bool (D1_.is), .int .i64 (D1_.left), .int .i64 (D1_.n), .map (some (D1_held_b10)), .slice (D_pend_a142) (D1_.pend).length (D_pend_c143)] 78 :: mpG Mwr (D1_held_b10) (D1_.held) (D_held_k141) :: grow 80 RWr h47 (D1_.pend) (D_pend_a142) (D_pend_c143) :: row (D1_b19) [.bool ((newD 3).is), .int .i64 ((newD 3).left), .int .i64 ((newD 3).n), .map (some (D1_held_b20)), .slice (D1_pend_a22) ((newD 3).pend).length (D1_pend_c23)] 78 :: mpG Mwr (D1_held_b20) ((newD 3).held) (D1_held_k21) :: grow 80 RWr h47 ((newD 3).pend) (D1_pend_a22) (D1_pend_c23) :: emp :: emp :: emp :: emp :: emp :: L) w46 := (((((hS55.front (i := 7) rfl).front (i := 7) rfl).front (i := 7) rfl).front (i := 7) rfl).front (i := 7) rfl)
  refine S_callH (vs := [.pointer (some ⟨S1_b6, 0, none⟩), .slice (some ⟨b49, 0, none⟩) 1 (1)]) (A := fun hh_ => [row (S1_b6) [.pointer (some ⟨D1_b9, 0, none⟩), .int .i64 (((aftS emptyS fl1)).g0), .int .i64 (((aftS emptyS fl1)).z0), .int .i64 (((aftS emptyS fl1)).g1), .int .i64 (((aftS emptyS fl1)).z1), .slice (S_files_a139) (((aftS emptyS fl1)).files).length (S_files_c140)] 60, grow 29 RFile hh_ (((aftS emptyS fl1)).files) (S_files_a139) (S_files_c140), row (D1_b9) [.bool (D1_.is), .int .i64 (D1_.left), .int .i64 (D1_.n), .map (some (D1_held_b10)), .slice (D_pend_a142) (D1_.pend).length (D_pend_c143)] 78, mpG Mwr (D1_held_b10) (D1_.held) (D_held_k141), grow 80 RWr hh_ (D1_.pend) (D_pend_a142) (D_pend_c143)]) (L := row (D1_b19) [.bool ((newD 3).is), .int .i64 ((newD 3).left), .int .i64 ((newD 3).n), .map (some (D1_held_b20)), .slice (D1_pend_a22) ((newD 3).pend).length (D1_pend_c23)] 78 :: mpG Mwr (D1_held_b20) ((newD 3).held) (D1_held_k21) :: grow 80 RWr h47 ((newD 3).pend) (D1_pend_a22) (D1_pend_c23) :: emp :: emp :: emp :: emp :: emp :: L) hS56 Tryz.call12 rfl (by have k_ := (store_Commit (aftS emptyS fl1) (S1_b6) (S_files_a139) (S_files_c140) (D1_) (D1_b9) (D1_held_b10) (D_held_k141) (D_pend_a142) (D_pend_c143) (fl2) (some ⟨b49, 0, none⟩) (1) hn1_ hp1_ (by decide) fix_sz2 (by decide)); rw [fix2 n1_] at k_; exact k_) (by exact hs50) ?_
  intro A57 v58 w52 hp59 hS51
  obtain ⟨S_files_a160, S_files_c161, D_held_k162, D_pend_a163, D_pend_c164, rfl, rfl⟩ := hp59
  have hS51 : St Γ h47 (row (S1_b6) [.pointer (some ⟨D1_b9, 0, none⟩), .int .i64 (((aftS emptyS fl1)).g0), .int .i64 (((aftS emptyS fl1)).z0), .int .i64 (((aftS emptyS fl1)).g1), .int .i64 (((aftS emptyS fl1)).z1), .slice (S_files_a160) (((aftS emptyS fl1)).files).length (S_files_c161)] 60 :: grow 29 RFile h47 (((aftS emptyS fl1)).files) (S_files_a160) (S_files_c161) :: row (D1_b9) [.bool (D1_.is), .int .i64 (D1_.left), .int .i64 (D1_.n), .map (some (D1_held_b10)), .slice (D_pend_a163) (D1_.pend).length (D_pend_c164)] 78 :: mpG Mwr (D1_held_b10) (D1_.held) (D_held_k162) :: grow 80 RWr h47 (D1_.pend) (D_pend_a163) (D_pend_c164) :: row (D1_b19) [.bool ((newD 3).is), .int .i64 ((newD 3).left), .int .i64 ((newD 3).n), .map (some (D1_held_b20)), .slice (D1_pend_a22) ((newD 3).pend).length (D1_pend_c23)] 78 :: mpG Mwr (D1_held_b20) ((newD 3).held) (D1_held_k21) :: grow 80 RWr h47 ((newD 3).pend) (D1_pend_a22) (D1_pend_c23) :: emp :: emp :: emp :: emp :: emp :: L) w52 := hS51
  have hS65 : St Γ h47 (row (D1_b19) [.bool ((newD 3).is), .int .i64 ((newD 3).left), .int .i64 ((newD 3).n), .map (some (D1_held_b20)), .slice (D1_pend_a22) ((newD 3).pend).length (D1_pend_c23)] 78 :: mpG Mwr (D1_held_b20) ((newD 3).held) (D1_held_k21) :: grow 80 RWr h47 ((newD 3).pend) (D1_pend_a22) (D1_pend_c23) :: row (S1_b6) [.pointer (some ⟨D1_b9, 0, none⟩), .int .i64 (((aftS emptyS fl1)).g0), .int .i64 (((aftS emptyS fl1)).z0), .int .i64 (((aftS emptyS fl1)).g1), .int .i64 (((aftS emptyS fl1)).z1), .slice (S_files_a160) (((aftS emptyS fl1)).files).length (S_files_c161)] 60 :: grow 29 RFile h47 (((aftS emptyS fl1)).files) (S_files_a160) (S_files_c161) :: row (D1_b9) [.bool (D1_.is), .int .i64 (D1_.left), .int .i64 (D1_.n), .map (some (D1_held_b10)), .slice (D_pend_a163) (D1_.pend).length (D_pend_c164)] 78 :: mpG Mwr (D1_held_b10) (D1_.held) (D_held_k162) :: grow 80 RWr h47 (D1_.pend) (D_pend_a163) (D_pend_c164) :: L) w52 := (St.back2 (i := 7) (St.back2 (i := 7) (St.back2 (i := 7) (St.back2 (i := 7) (St.back2 (i := 7) hS51 rfl) rfl) rfl) rfl) rfl)
  refine WL.val1 (R_assign (v := .int .i64 (7)) rfl) ?_
  refine WL.nil ?_
  refine then_normal ?_
  refine WC.seq ?_
  refine WC.region ?_
  refine WL.val1 (R_move (v := .pointer (some ⟨S1_b6, 0, none⟩)) rfl) ?_
  refine WL.val1 (R_build (vs := [(0, .string (B (([65] : Str))))]) (v := .agg #[.string (B (([65] : Str))), .string (B (([] : Str)))]) rfl (fun _ => by kernel_rfl)) ?_
  refine S_buildSliceC (R := RFile) (m := 1) (vs := [(0, .agg #[.string (B (([65] : Str))), .string (B (([] : Str)))])]) (cells := [.string (B (([65] : Str))), .string (B (([] : Str)))]) (xs := fl3) hS65 Tryz.underlying30 Tryz.sizeOf29 Tryz.zeroValue29 (by decide) (by decide) rfl (by kernel_rfl) (by exact (⟨[.string (B (([65] : Str))), .string (B (([] : Str)))], _, rfl, rfl, rfl⟩ : Flat RFile _ fl3 _)) rfl ?_
  intro h68 b70 w67 hl69 hs71 hS66
  have hS74 := hS66.growMono (i := 2) rfl hl69
  have hS75 := hS74.growMono (i := 4) rfl hl69
  have hS76 := hS75.growMono (i := 7) rfl hl69
  have hS77 : St Γ h68 (row (S1_b6) [.pointer (some ⟨D1_b9, 0, none⟩), .int .i64 (((aftS emptyS fl1)).g0), .int .i64 (((aftS emptyS fl1)).z0), .int .i64 (((aftS emptyS fl1)).g1), .int .i64 (((aftS emptyS fl1)).z1), .slice (S_files_a160) (((aftS emptyS fl1)).files).length (S_files_c161)] 60 :: grow 29 RFile h68 (((aftS emptyS fl1)).files) (S_files_a160) (S_files_c161) :: row (D1_b9) [.bool (D1_.is), .int .i64 (D1_.left), .int .i64 (D1_.n), .map (some (D1_held_b10)), .slice (D_pend_a163) (D1_.pend).length (D_pend_c164)] 78 :: mpG Mwr (D1_held_b10) (D1_.held) (D_held_k162) :: grow 80 RWr h68 (D1_.pend) (D_pend_a163) (D_pend_c164) :: row (D1_b19) [.bool ((newD 3).is), .int .i64 ((newD 3).left), .int .i64 ((newD 3).n), .map (some (D1_held_b20)), .slice (D1_pend_a22) ((newD 3).pend).length (D1_pend_c23)] 78 :: mpG Mwr (D1_held_b20) ((newD 3).held) (D1_held_k21) :: grow 80 RWr h68 ((newD 3).pend) (D1_pend_a22) (D1_pend_c23) :: emp :: emp :: emp :: emp :: emp :: L) w67 := (((((hS76.front (i := 7) rfl).front (i := 7) rfl).front (i := 7) rfl).front (i := 7) rfl).front (i := 7) rfl)
  refine S_callH (vs := [.pointer (some ⟨S1_b6, 0, none⟩), .slice (some ⟨b70, 0, none⟩) 1 (1)]) (A := fun hh_ => [row (S1_b6) [.pointer (some ⟨D1_b9, 0, none⟩), .int .i64 (((aftS emptyS fl1)).g0), .int .i64 (((aftS emptyS fl1)).z0), .int .i64 (((aftS emptyS fl1)).g1), .int .i64 (((aftS emptyS fl1)).z1), .slice (S_files_a160) (((aftS emptyS fl1)).files).length (S_files_c161)] 60, grow 29 RFile hh_ (((aftS emptyS fl1)).files) (S_files_a160) (S_files_c161), row (D1_b9) [.bool (D1_.is), .int .i64 (D1_.left), .int .i64 (D1_.n), .map (some (D1_held_b10)), .slice (D_pend_a163) (D1_.pend).length (D_pend_c164)] 78, mpG Mwr (D1_held_b10) (D1_.held) (D_held_k162), grow 80 RWr hh_ (D1_.pend) (D_pend_a163) (D_pend_c164)]) (L := row (D1_b19) [.bool ((newD 3).is), .int .i64 ((newD 3).left), .int .i64 ((newD 3).n), .map (some (D1_held_b20)), .slice (D1_pend_a22) ((newD 3).pend).length (D1_pend_c23)] 78 :: mpG Mwr (D1_held_b20) ((newD 3).held) (D1_held_k21) :: grow 80 RWr h68 ((newD 3).pend) (D1_pend_a22) (D1_pend_c23) :: emp :: emp :: emp :: emp :: emp :: L) hS77 Tryz.call12 rfl (by have k_ := (store_Commit (aftS emptyS fl1) (S1_b6) (S_files_a160) (S_files_c161) (D1_) (D1_b9) (D1_held_b10) (D_held_k162) (D_pend_a163) (D_pend_c164) (fl3) (some ⟨b70, 0, none⟩) (1) hn1_ hp1_ (by decide) fix_sz3 (by decide)); rw [fix3] at k_; exact k_) (by exact hs71) ?_
  intro A78 v79 w73 hp80 hS72
  obtain ⟨S_files_a181, S_files_c182, D_held_k183, D_pend_a184, D_pend_c185, rfl, rfl⟩ := hp80
  have hS72 : St Γ h68 (row (S1_b6) [.pointer (some ⟨D1_b9, 0, none⟩), .int .i64 (((aftS emptyS fl1)).g0), .int .i64 (((aftS emptyS fl1)).z0), .int .i64 (((aftS emptyS fl1)).g1), .int .i64 (((aftS emptyS fl1)).z1), .slice (S_files_a181) (((aftS emptyS fl1)).files).length (S_files_c182)] 60 :: grow 29 RFile h68 (((aftS emptyS fl1)).files) (S_files_a181) (S_files_c182) :: row (D1_b9) [.bool (D1_.is), .int .i64 (D1_.left), .int .i64 (D1_.n), .map (some (D1_held_b10)), .slice (D_pend_a184) (D1_.pend).length (D_pend_c185)] 78 :: mpG Mwr (D1_held_b10) (D1_.held) (D_held_k183) :: grow 80 RWr h68 (D1_.pend) (D_pend_a184) (D_pend_c185) :: row (D1_b19) [.bool ((newD 3).is), .int .i64 ((newD 3).left), .int .i64 ((newD 3).n), .map (some (D1_held_b20)), .slice (D1_pend_a22) ((newD 3).pend).length (D1_pend_c23)] 78 :: mpG Mwr (D1_held_b20) ((newD 3).held) (D1_held_k21) :: grow 80 RWr h68 ((newD 3).pend) (D1_pend_a22) (D1_pend_c23) :: emp :: emp :: emp :: emp :: emp :: L) w73 := hS72
  have hS86 : St Γ h68 (row (D1_b19) [.bool ((newD 3).is), .int .i64 ((newD 3).left), .int .i64 ((newD 3).n), .map (some (D1_held_b20)), .slice (D1_pend_a22) ((newD 3).pend).length (D1_pend_c23)] 78 :: mpG Mwr (D1_held_b20) ((newD 3).held) (D1_held_k21) :: grow 80 RWr h68 ((newD 3).pend) (D1_pend_a22) (D1_pend_c23) :: row (S1_b6) [.pointer (some ⟨D1_b9, 0, none⟩), .int .i64 (((aftS emptyS fl1)).g0), .int .i64 (((aftS emptyS fl1)).z0), .int .i64 (((aftS emptyS fl1)).g1), .int .i64 (((aftS emptyS fl1)).z1), .slice (S_files_a181) (((aftS emptyS fl1)).files).length (S_files_c182)] 60 :: grow 29 RFile h68 (((aftS emptyS fl1)).files) (S_files_a181) (S_files_c182) :: row (D1_b9) [.bool (D1_.is), .int .i64 (D1_.left), .int .i64 (D1_.n), .map (some (D1_held_b10)), .slice (D_pend_a184) (D1_.pend).length (D_pend_c185)] 78 :: mpG Mwr (D1_held_b10) (D1_.held) (D_held_k183) :: grow 80 RWr h68 (D1_.pend) (D_pend_a184) (D_pend_c185) :: L) w73 := (St.back2 (i := 7) (St.back2 (i := 7) (St.back2 (i := 7) (St.back2 (i := 7) (St.back2 (i := 7) hS72 rfl) rfl) rfl) rfl) rfl)
  refine WL.val1 (R_assign (v := .int .i64 (5)) rfl) ?_
  refine WL.nil ?_
  refine then_normal ?_
  refine WC.seq ?_
  refine WC.region ?_
  refine WL.val1 (R_move (v := .pointer (some ⟨D1_b19, 0, none⟩)) rfl) ?_
  refine S_callH (vs := [.pointer (some ⟨D1_b19, 0, none⟩)]) (A := fun hh_ => [row (D1_b19) [.bool ((newD 3).is), .int .i64 ((newD 3).left), .int .i64 ((newD 3).n), .map (some (D1_held_b20)), .slice (D1_pend_a22) ((newD 3).pend).length (D1_pend_c23)] 78, mpG Mwr (D1_held_b20) ((newD 3).held) (D1_held_k21), grow 80 RWr hh_ ((newD 3).pend) (D1_pend_a22) (D1_pend_c23)]) (L := row (S1_b6) [.pointer (some ⟨D1_b9, 0, none⟩), .int .i64 (((aftS emptyS fl1)).g0), .int .i64 (((aftS emptyS fl1)).z0), .int .i64 (((aftS emptyS fl1)).g1), .int .i64 (((aftS emptyS fl1)).z1), .slice (S_files_a181) (((aftS emptyS fl1)).files).length (S_files_c182)] 60 :: grow 29 RFile h68 (((aftS emptyS fl1)).files) (S_files_a181) (S_files_c182) :: row (D1_b9) [.bool (D1_.is), .int .i64 (D1_.left), .int .i64 (D1_.n), .map (some (D1_held_b10)), .slice (D_pend_a184) (D1_.pend).length (D_pend_c185)] 78 :: mpG Mwr (D1_held_b10) (D1_.held) (D_held_k183) :: grow 80 RWr h68 (D1_.pend) (D_pend_a184) (D_pend_c185) :: L) hS86 Tryz.call18 rfl (store_OpenNo (newD 3) (D1_b19) (D1_held_b20) (D1_held_k21) (D1_pend_a22) (D1_pend_c23) (by decide)) trivial ?_
  intro A89 v90 w88 hp91 hS87
  obtain ⟨rfl, rfl⟩ := hp91
  have hS87 : St Γ h68 (row (D1_b19) [.bool ((newD 3).is), .int .i64 ((newD 3).left), .int .i64 ((newD 3).n), .map (some (D1_held_b20)), .slice (D1_pend_a22) ((newD 3).pend).length (D1_pend_c23)] 78 :: mpG Mwr (D1_held_b20) ((newD 3).held) (D1_held_k21) :: grow 80 RWr h68 ((newD 3).pend) (D1_pend_a22) (D1_pend_c23) :: row (S1_b6) [.pointer (some ⟨D1_b9, 0, none⟩), .int .i64 (((aftS emptyS fl1)).g0), .int .i64 (((aftS emptyS fl1)).z0), .int .i64 (((aftS emptyS fl1)).g1), .int .i64 (((aftS emptyS fl1)).z1), .slice (S_files_a181) (((aftS emptyS fl1)).files).length (S_files_c182)] 60 :: grow 29 RFile h68 (((aftS emptyS fl1)).files) (S_files_a181) (S_files_c182) :: row (D1_b9) [.bool (D1_.is), .int .i64 (D1_.left), .int .i64 (D1_.n), .map (some (D1_held_b10)), .slice (D_pend_a184) (D1_.pend).length (D_pend_c185)] 78 :: mpG Mwr (D1_held_b10) (D1_.held) (D_held_k183) :: grow 80 RWr h68 (D1_.pend) (D_pend_a184) (D_pend_c185) :: L) w88 := hS87
  refine WL.val1 (R_move (v := .tuple #[.pointer none, .int .i64 (1)]) rfl) ?_
  refine WL.val1 (R_extract (vs := ([.pointer none, .int .i64 (1)] : List Value).toArray) (v := .pointer none) rfl rfl) ?_
  refine WL.val1 (R_extract (vs := ([.pointer none, .int .i64 (1)] : List Value).toArray) (v := .int .i64 (1)) rfl rfl) ?_
  refine WL.val1 (R_assign (v := .pointer none) rfl) ?_
  refine WL.val1 (R_assign (v := .int .i64 (1)) rfl) ?_
  refine WL.nil ?_
  refine then_normal ?_
  refine WC.seq ?_
  refine WC.region ?_
  refine WL.val1 (R_move (v := .pointer (some ⟨D1_b9, 0, none⟩)) rfl) ?_
  have hS94 : St Γ h68 (row (D1_b9) [.bool (D1_.is), .int .i64 (D1_.left), .int .i64 (D1_.n), .map (some (D1_held_b10)), .slice (D_pend_a184) (D1_.pend).length (D_pend_c185)] 78 :: mpG Mwr (D1_held_b10) (D1_.held) (D_held_k183) :: grow 80 RWr h68 (D1_.pend) (D_pend_a184) (D_pend_c185) :: row (D1_b19) [.bool ((newD 3).is), .int .i64 ((newD 3).left), .int .i64 ((newD 3).n), .map (some (D1_held_b20)), .slice (D1_pend_a22) ((newD 3).pend).length (D1_pend_c23)] 78 :: mpG Mwr (D1_held_b20) ((newD 3).held) (D1_held_k21) :: grow 80 RWr h68 ((newD 3).pend) (D1_pend_a22) (D1_pend_c23) :: row (S1_b6) [.pointer (some ⟨D1_b9, 0, none⟩), .int .i64 (((aftS emptyS fl1)).g0), .int .i64 (((aftS emptyS fl1)).z0), .int .i64 (((aftS emptyS fl1)).g1), .int .i64 (((aftS emptyS fl1)).z1), .slice (S_files_a181) (((aftS emptyS fl1)).files).length (S_files_c182)] 60 :: grow 29 RFile h68 (((aftS emptyS fl1)).files) (S_files_a181) (S_files_c182) :: emp :: emp :: emp :: L) w88 := (((hS87.front (i := 7) rfl).front (i := 7) rfl).front (i := 7) rfl)
  refine S_callH (vs := [.pointer (some ⟨D1_b9, 0, none⟩), .int .i64 (0)]) (A := fun hh_ => [row (D1_b9) [.bool (D1_.is), .int .i64 (D1_.left), .int .i64 (D1_.n), .map (some (D1_held_b10)), .slice (D_pend_a184) (D1_.pend).length (D_pend_c185)] 78, mpG Mwr (D1_held_b10) (D1_.held) (D_held_k183), grow 80 RWr hh_ (D1_.pend) (D_pend_a184) (D_pend_c185)]) (L := row (D1_b19) [.bool ((newD 3).is), .int .i64 ((newD 3).left), .int .i64 ((newD 3).n), .map (some (D1_held_b20)), .slice (D1_pend_a22) ((newD 3).pend).length (D1_pend_c23)] 78 :: mpG Mwr (D1_held_b20) ((newD 3).held) (D1_held_k21) :: grow 80 RWr h68 ((newD 3).pend) (D1_pend_a22) (D1_pend_c23) :: row (S1_b6) [.pointer (some ⟨D1_b9, 0, none⟩), .int .i64 (((aftS emptyS fl1)).g0), .int .i64 (((aftS emptyS fl1)).z0), .int .i64 (((aftS emptyS fl1)).g1), .int .i64 (((aftS emptyS fl1)).z1), .slice (S_files_a181) (((aftS emptyS fl1)).files).length (S_files_c182)] 60 :: grow 29 RFile h68 (((aftS emptyS fl1)).files) (S_files_a181) (S_files_c182) :: emp :: emp :: emp :: L) hS94 Tryz.call19 rfl (disk_Limit (D1_) (D1_b9) (D1_held_b10) (D_held_k183) (D_pend_a184) (D_pend_c185) (0)) trivial ?_
  intro A95 v96 w93 hp97 hS92
  obtain ⟨rfl, rfl⟩ := hp97
  have hS92 : St Γ h68 (row (D1_b9) [.bool (true), .int .i64 (0), .int .i64 (D1_.n), .map (some (D1_held_b10)), .slice (D_pend_a184) (D1_.pend).length (D_pend_c185)] 78 :: mpG Mwr (D1_held_b10) (D1_.held) (D_held_k183) :: grow 80 RWr h68 (D1_.pend) (D_pend_a184) (D_pend_c185) :: row (D1_b19) [.bool ((newD 3).is), .int .i64 ((newD 3).left), .int .i64 ((newD 3).n), .map (some (D1_held_b20)), .slice (D1_pend_a22) ((newD 3).pend).length (D1_pend_c23)] 78 :: mpG Mwr (D1_held_b20) ((newD 3).held) (D1_held_k21) :: grow 80 RWr h68 ((newD 3).pend) (D1_pend_a22) (D1_pend_c23) :: row (S1_b6) [.pointer (some ⟨D1_b9, 0, none⟩), .int .i64 (((aftS emptyS fl1)).g0), .int .i64 (((aftS emptyS fl1)).z0), .int .i64 (((aftS emptyS fl1)).g1), .int .i64 (((aftS emptyS fl1)).z1), .slice (S_files_a181) (((aftS emptyS fl1)).files).length (S_files_c182)] 60 :: grow 29 RFile h68 (((aftS emptyS fl1)).files) (S_files_a181) (S_files_c182) :: emp :: emp :: emp :: L) w93 := hS92
  have hS98 : St Γ h68 (row (D1_b19) [.bool ((newD 3).is), .int .i64 ((newD 3).left), .int .i64 ((newD 3).n), .map (some (D1_held_b20)), .slice (D1_pend_a22) ((newD 3).pend).length (D1_pend_c23)] 78 :: mpG Mwr (D1_held_b20) ((newD 3).held) (D1_held_k21) :: grow 80 RWr h68 ((newD 3).pend) (D1_pend_a22) (D1_pend_c23) :: row (S1_b6) [.pointer (some ⟨D1_b9, 0, none⟩), .int .i64 (((aftS emptyS fl1)).g0), .int .i64 (((aftS emptyS fl1)).z0), .int .i64 (((aftS emptyS fl1)).g1), .int .i64 (((aftS emptyS fl1)).z1), .slice (S_files_a181) (((aftS emptyS fl1)).files).length (S_files_c182)] 60 :: grow 29 RFile h68 (((aftS emptyS fl1)).files) (S_files_a181) (S_files_c182) :: row (D1_b9) [.bool (true), .int .i64 (0), .int .i64 (D1_.n), .map (some (D1_held_b10)), .slice (D_pend_a184) (D1_.pend).length (D_pend_c185)] 78 :: mpG Mwr (D1_held_b10) (D1_.held) (D_held_k183) :: grow 80 RWr h68 (D1_.pend) (D_pend_a184) (D_pend_c185) :: L) w93 := (St.back2 (i := 7) (St.back2 (i := 7) (St.back2 (i := 7) hS92 rfl) rfl) rfl)
  refine WL.nil ?_
  refine then_normal ?_
  refine WC.seq ?_
  refine WC.region ?_
  refine WL.val1 (R_move (v := .pointer (some ⟨S1_b6, 0, none⟩)) rfl) ?_
  have hS101 : St Γ h68 (row (S1_b6) [.pointer (some ⟨D1_b9, 0, none⟩), .int .i64 (((aftS emptyS fl1)).g0), .int .i64 (((aftS emptyS fl1)).z0), .int .i64 (((aftS emptyS fl1)).g1), .int .i64 (((aftS emptyS fl1)).z1), .slice (S_files_a181) (((aftS emptyS fl1)).files).length (S_files_c182)] 60 :: grow 29 RFile h68 (((aftS emptyS fl1)).files) (S_files_a181) (S_files_c182) :: row (D1_b9) [.bool (true), .int .i64 (0), .int .i64 (D1_.n), .map (some (D1_held_b10)), .slice (D_pend_a184) (D1_.pend).length (D_pend_c185)] 78 :: mpG Mwr (D1_held_b10) (D1_.held) (D_held_k183) :: grow 80 RWr h68 (D1_.pend) (D_pend_a184) (D_pend_c185) :: row (D1_b19) [.bool ((newD 3).is), .int .i64 ((newD 3).left), .int .i64 ((newD 3).n), .map (some (D1_held_b20)), .slice (D1_pend_a22) ((newD 3).pend).length (D1_pend_c23)] 78 :: mpG Mwr (D1_held_b20) ((newD 3).held) (D1_held_k21) :: grow 80 RWr h68 ((newD 3).pend) (D1_pend_a22) (D1_pend_c23) :: emp :: emp :: emp :: emp :: emp :: L) w93 := (((((hS98.front (i := 7) rfl).front (i := 7) rfl).front (i := 7) rfl).front (i := 7) rfl).front (i := 7) rfl)
  refine S_callH (vs := [.pointer (some ⟨S1_b6, 0, none⟩), .slice none 0 0]) (A := fun hh_ => [row (S1_b6) [.pointer (some ⟨D1_b9, 0, none⟩), .int .i64 (((aftS emptyS fl1)).g0), .int .i64 (((aftS emptyS fl1)).z0), .int .i64 (((aftS emptyS fl1)).g1), .int .i64 (((aftS emptyS fl1)).z1), .slice (S_files_a181) (((aftS emptyS fl1)).files).length (S_files_c182)] 60, grow 29 RFile hh_ (((aftS emptyS fl1)).files) (S_files_a181) (S_files_c182), row (D1_b9) [.bool (true), .int .i64 (0), .int .i64 (D1_.n), .map (some (D1_held_b10)), .slice (D_pend_a184) (D1_.pend).length (D_pend_c185)] 78, mpG Mwr (D1_held_b10) (D1_.held) (D_held_k183), grow 80 RWr hh_ (D1_.pend) (D_pend_a184) (D_pend_c185)]) (L := row (D1_b19) [.bool ((newD 3).is), .int .i64 ((newD 3).left), .int .i64 ((newD 3).n), .map (some (D1_held_b20)), .slice (D1_pend_a22) ((newD 3).pend).length (D1_pend_c23)] 78 :: mpG Mwr (D1_held_b20) ((newD 3).held) (D1_held_k21) :: grow 80 RWr h68 ((newD 3).pend) (D1_pend_a22) (D1_pend_c23) :: emp :: emp :: emp :: emp :: emp :: L) hS101 Tryz.call12 rfl (by have k_ := (store_Commit (aftS emptyS fl1) (S1_b6) (S_files_a181) (S_files_c182) ({ is := true, left := 0, n := D1_.n, held := D1_.held, pend := D1_.pend } : Dsk) (D1_b9) (D1_held_b10) (D_held_k183) (D_pend_a184) (D_pend_c185) [] none 0 hn1_ hp1_ (by decide) (fun x h => by cases h) (by decide)); rw [fix4 n1_ p1_] at k_; exact k_) (by exact (Sl.nil _ _ _ _)) ?_
  intro A102 v103 w100 hp104 hS99
  obtain ⟨S_files_a1105, S_files_c1106, D_held_k1107, D_pend_a1108, D_pend_c1109, rfl, rfl⟩ := hp104
  have hS99 : St Γ h68 (row (S1_b6) [.pointer (some ⟨D1_b9, 0, none⟩), .int .i64 (((aftS emptyS fl1)).g0), .int .i64 (((aftS emptyS fl1)).z0), .int .i64 (((aftS emptyS fl1)).g1), .int .i64 (((aftS emptyS fl1)).z1), .slice (S_files_a1105) (((aftS emptyS fl1)).files).length (S_files_c1106)] 60 :: grow 29 RFile h68 (((aftS emptyS fl1)).files) (S_files_a1105) (S_files_c1106) :: row (D1_b9) [.bool (((⟨true, 0, D1_.n, D1_.held, []⟩ : Dsk)).is), .int .i64 (((⟨true, 0, D1_.n, D1_.held, []⟩ : Dsk)).left), .int .i64 (((⟨true, 0, D1_.n, D1_.held, []⟩ : Dsk)).n), .map (some (D1_held_b10)), .slice (D_pend_a1108) (((⟨true, 0, D1_.n, D1_.held, []⟩ : Dsk)).pend).length (D_pend_c1109)] 78 :: mpG Mwr (D1_held_b10) (((⟨true, 0, D1_.n, D1_.held, []⟩ : Dsk)).held) (D_held_k1107) :: grow 80 RWr h68 (((⟨true, 0, D1_.n, D1_.held, []⟩ : Dsk)).pend) (D_pend_a1108) (D_pend_c1109) :: row (D1_b19) [.bool ((newD 3).is), .int .i64 ((newD 3).left), .int .i64 ((newD 3).n), .map (some (D1_held_b20)), .slice (D1_pend_a22) ((newD 3).pend).length (D1_pend_c23)] 78 :: mpG Mwr (D1_held_b20) ((newD 3).held) (D1_held_k21) :: grow 80 RWr h68 ((newD 3).pend) (D1_pend_a22) (D1_pend_c23) :: emp :: emp :: emp :: emp :: emp :: L) w100 := hS99
  have hS110 : St Γ h68 (row (D1_b19) [.bool ((newD 3).is), .int .i64 ((newD 3).left), .int .i64 ((newD 3).n), .map (some (D1_held_b20)), .slice (D1_pend_a22) ((newD 3).pend).length (D1_pend_c23)] 78 :: mpG Mwr (D1_held_b20) ((newD 3).held) (D1_held_k21) :: grow 80 RWr h68 ((newD 3).pend) (D1_pend_a22) (D1_pend_c23) :: row (S1_b6) [.pointer (some ⟨D1_b9, 0, none⟩), .int .i64 (((aftS emptyS fl1)).g0), .int .i64 (((aftS emptyS fl1)).z0), .int .i64 (((aftS emptyS fl1)).g1), .int .i64 (((aftS emptyS fl1)).z1), .slice (S_files_a1105) (((aftS emptyS fl1)).files).length (S_files_c1106)] 60 :: grow 29 RFile h68 (((aftS emptyS fl1)).files) (S_files_a1105) (S_files_c1106) :: row (D1_b9) [.bool (((⟨true, 0, D1_.n, D1_.held, []⟩ : Dsk)).is), .int .i64 (((⟨true, 0, D1_.n, D1_.held, []⟩ : Dsk)).left), .int .i64 (((⟨true, 0, D1_.n, D1_.held, []⟩ : Dsk)).n), .map (some (D1_held_b10)), .slice (D_pend_a1108) (((⟨true, 0, D1_.n, D1_.held, []⟩ : Dsk)).pend).length (D_pend_c1109)] 78 :: mpG Mwr (D1_held_b10) (((⟨true, 0, D1_.n, D1_.held, []⟩ : Dsk)).held) (D_held_k1107) :: grow 80 RWr h68 (((⟨true, 0, D1_.n, D1_.held, []⟩ : Dsk)).pend) (D_pend_a1108) (D_pend_c1109) :: L) w100 := (St.back2 (i := 7) (St.back2 (i := 7) (St.back2 (i := 7) (St.back2 (i := 7) (St.back2 (i := 7) hS99 rfl) rfl) rfl) rfl) rfl)
  refine WL.val1 (R_assign (v := .int .i64 (8)) rfl) ?_
  refine WL.nil ?_
  refine then_normal ?_
  refine WC.seq ?_
  refine WC.region ?_
  refine WL.val1 (R_move (v := .pointer (some ⟨D1_b9, 0, none⟩)) rfl) ?_
  have hS113 : St Γ h68 (row (D1_b9) [.bool (((⟨true, 0, D1_.n, D1_.held, []⟩ : Dsk)).is), .int .i64 (((⟨true, 0, D1_.n, D1_.held, []⟩ : Dsk)).left), .int .i64 (((⟨true, 0, D1_.n, D1_.held, []⟩ : Dsk)).n), .map (some (D1_held_b10)), .slice (D_pend_a1108) (((⟨true, 0, D1_.n, D1_.held, []⟩ : Dsk)).pend).length (D_pend_c1109)] 78 :: mpG Mwr (D1_held_b10) (((⟨true, 0, D1_.n, D1_.held, []⟩ : Dsk)).held) (D_held_k1107) :: grow 80 RWr h68 (((⟨true, 0, D1_.n, D1_.held, []⟩ : Dsk)).pend) (D_pend_a1108) (D_pend_c1109) :: row (D1_b19) [.bool ((newD 3).is), .int .i64 ((newD 3).left), .int .i64 ((newD 3).n), .map (some (D1_held_b20)), .slice (D1_pend_a22) ((newD 3).pend).length (D1_pend_c23)] 78 :: mpG Mwr (D1_held_b20) ((newD 3).held) (D1_held_k21) :: grow 80 RWr h68 ((newD 3).pend) (D1_pend_a22) (D1_pend_c23) :: row (S1_b6) [.pointer (some ⟨D1_b9, 0, none⟩), .int .i64 (((aftS emptyS fl1)).g0), .int .i64 (((aftS emptyS fl1)).z0), .int .i64 (((aftS emptyS fl1)).g1), .int .i64 (((aftS emptyS fl1)).z1), .slice (S_files_a1105) (((aftS emptyS fl1)).files).length (S_files_c1106)] 60 :: grow 29 RFile h68 (((aftS emptyS fl1)).files) (S_files_a1105) (S_files_c1106) :: emp :: emp :: emp :: L) w100 := (((hS110.front (i := 7) rfl).front (i := 7) rfl).front (i := 7) rfl)
  refine S_callH (vs := [.pointer (some ⟨D1_b9, 0, none⟩), .slice none 0 0]) (A := fun hh_ => [row (D1_b9) [.bool (((⟨true, 0, D1_.n, D1_.held, []⟩ : Dsk)).is), .int .i64 (((⟨true, 0, D1_.n, D1_.held, []⟩ : Dsk)).left), .int .i64 (((⟨true, 0, D1_.n, D1_.held, []⟩ : Dsk)).n), .map (some (D1_held_b10)), .slice (D_pend_a1108) (((⟨true, 0, D1_.n, D1_.held, []⟩ : Dsk)).pend).length (D_pend_c1109)] 78, mpG Mwr (D1_held_b10) (((⟨true, 0, D1_.n, D1_.held, []⟩ : Dsk)).held) (D_held_k1107), grow 80 RWr hh_ (((⟨true, 0, D1_.n, D1_.held, []⟩ : Dsk)).pend) (D_pend_a1108) (D_pend_c1109)]) (L := row (D1_b19) [.bool ((newD 3).is), .int .i64 ((newD 3).left), .int .i64 ((newD 3).n), .map (some (D1_held_b20)), .slice (D1_pend_a22) ((newD 3).pend).length (D1_pend_c23)] 78 :: mpG Mwr (D1_held_b20) ((newD 3).held) (D1_held_k21) :: grow 80 RWr h68 ((newD 3).pend) (D1_pend_a22) (D1_pend_c23) :: row (S1_b6) [.pointer (some ⟨D1_b9, 0, none⟩), .int .i64 (((aftS emptyS fl1)).g0), .int .i64 (((aftS emptyS fl1)).z0), .int .i64 (((aftS emptyS fl1)).g1), .int .i64 (((aftS emptyS fl1)).z1), .slice (S_files_a1105) (((aftS emptyS fl1)).files).length (S_files_c1106)] 60 :: grow 29 RFile h68 (((aftS emptyS fl1)).files) (S_files_a1105) (S_files_c1106) :: emp :: emp :: emp :: L) hS113 Tryz.call17 rfl (disk_Crash (⟨true, 0, D1_.n, D1_.held, []⟩ : Dsk) (D1_b9) (D1_held_b10) (D_held_k1107) (D_pend_a1108) (D_pend_c1109) [] none 0 (Nat.zero_le _)) (Sl.nil _ _ _ _) ?_
  intro A114 v115 w112 hp116 hS111
  obtain ⟨D_held_k1117, D_pend_a1118, D_pend_c1119, rfl, rfl⟩ := hp116
  have hS111 : St Γ h68 (row (D1_b9) [.bool ((crashD (⟨true, 0, D1_.n, D1_.held, []⟩ : Dsk) ([])).is), .int .i64 ((crashD (⟨true, 0, D1_.n, D1_.held, []⟩ : Dsk) ([])).left), .int .i64 ((crashD (⟨true, 0, D1_.n, D1_.held, []⟩ : Dsk) ([])).n), .map (some (D1_held_b10)), .slice (D_pend_a1118) ((crashD (⟨true, 0, D1_.n, D1_.held, []⟩ : Dsk) ([])).pend).length (D_pend_c1119)] 78 :: mpG Mwr (D1_held_b10) ((crashD (⟨true, 0, D1_.n, D1_.held, []⟩ : Dsk) ([])).held) (D_held_k1117) :: grow 80 RWr h68 ((crashD (⟨true, 0, D1_.n, D1_.held, []⟩ : Dsk) ([])).pend) (D_pend_a1118) (D_pend_c1119) :: row (D1_b19) [.bool ((newD 3).is), .int .i64 ((newD 3).left), .int .i64 ((newD 3).n), .map (some (D1_held_b20)), .slice (D1_pend_a22) ((newD 3).pend).length (D1_pend_c23)] 78 :: mpG Mwr (D1_held_b20) ((newD 3).held) (D1_held_k21) :: grow 80 RWr h68 ((newD 3).pend) (D1_pend_a22) (D1_pend_c23) :: row (S1_b6) [.pointer (some ⟨D1_b9, 0, none⟩), .int .i64 (((aftS emptyS fl1)).g0), .int .i64 (((aftS emptyS fl1)).z0), .int .i64 (((aftS emptyS fl1)).g1), .int .i64 (((aftS emptyS fl1)).z1), .slice (S_files_a1105) (((aftS emptyS fl1)).files).length (S_files_c1106)] 60 :: grow 29 RFile h68 (((aftS emptyS fl1)).files) (S_files_a1105) (S_files_c1106) :: emp :: emp :: emp :: L) w112 := hS111
  have hS120 : St Γ h68 (row (D1_b19) [.bool ((newD 3).is), .int .i64 ((newD 3).left), .int .i64 ((newD 3).n), .map (some (D1_held_b20)), .slice (D1_pend_a22) ((newD 3).pend).length (D1_pend_c23)] 78 :: mpG Mwr (D1_held_b20) ((newD 3).held) (D1_held_k21) :: grow 80 RWr h68 ((newD 3).pend) (D1_pend_a22) (D1_pend_c23) :: row (S1_b6) [.pointer (some ⟨D1_b9, 0, none⟩), .int .i64 (((aftS emptyS fl1)).g0), .int .i64 (((aftS emptyS fl1)).z0), .int .i64 (((aftS emptyS fl1)).g1), .int .i64 (((aftS emptyS fl1)).z1), .slice (S_files_a1105) (((aftS emptyS fl1)).files).length (S_files_c1106)] 60 :: grow 29 RFile h68 (((aftS emptyS fl1)).files) (S_files_a1105) (S_files_c1106) :: row (D1_b9) [.bool ((crashD (⟨true, 0, D1_.n, D1_.held, []⟩ : Dsk) ([])).is), .int .i64 ((crashD (⟨true, 0, D1_.n, D1_.held, []⟩ : Dsk) ([])).left), .int .i64 ((crashD (⟨true, 0, D1_.n, D1_.held, []⟩ : Dsk) ([])).n), .map (some (D1_held_b10)), .slice (D_pend_a1118) ((crashD (⟨true, 0, D1_.n, D1_.held, []⟩ : Dsk) ([])).pend).length (D_pend_c1119)] 78 :: mpG Mwr (D1_held_b10) ((crashD (⟨true, 0, D1_.n, D1_.held, []⟩ : Dsk) ([])).held) (D_held_k1117) :: grow 80 RWr h68 ((crashD (⟨true, 0, D1_.n, D1_.held, []⟩ : Dsk) ([])).pend) (D_pend_a1118) (D_pend_c1119) :: L) w112 := (St.back2 (i := 7) (St.back2 (i := 7) (St.back2 (i := 7) hS111 rfl) rfl) rfl)
  refine WL.nil ?_
  refine then_normal ?_
  refine WC.seq ?_
  refine WC.region ?_
  refine WL.val1 (R_move (v := .pointer (some ⟨D1_b9, 0, none⟩)) rfl) ?_
  have hS123 : St Γ h68 (row (D1_b9) [.bool ((crashD (⟨true, 0, D1_.n, D1_.held, []⟩ : Dsk) ([])).is), .int .i64 ((crashD (⟨true, 0, D1_.n, D1_.held, []⟩ : Dsk) ([])).left), .int .i64 ((crashD (⟨true, 0, D1_.n, D1_.held, []⟩ : Dsk) ([])).n), .map (some (D1_held_b10)), .slice (D_pend_a1118) ((crashD (⟨true, 0, D1_.n, D1_.held, []⟩ : Dsk) ([])).pend).length (D_pend_c1119)] 78 :: mpG Mwr (D1_held_b10) ((crashD (⟨true, 0, D1_.n, D1_.held, []⟩ : Dsk) ([])).held) (D_held_k1117) :: grow 80 RWr h68 ((crashD (⟨true, 0, D1_.n, D1_.held, []⟩ : Dsk) ([])).pend) (D_pend_a1118) (D_pend_c1119) :: row (D1_b19) [.bool ((newD 3).is), .int .i64 ((newD 3).left), .int .i64 ((newD 3).n), .map (some (D1_held_b20)), .slice (D1_pend_a22) ((newD 3).pend).length (D1_pend_c23)] 78 :: mpG Mwr (D1_held_b20) ((newD 3).held) (D1_held_k21) :: grow 80 RWr h68 ((newD 3).pend) (D1_pend_a22) (D1_pend_c23) :: row (S1_b6) [.pointer (some ⟨D1_b9, 0, none⟩), .int .i64 (((aftS emptyS fl1)).g0), .int .i64 (((aftS emptyS fl1)).z0), .int .i64 (((aftS emptyS fl1)).g1), .int .i64 (((aftS emptyS fl1)).z1), .slice (S_files_a1105) (((aftS emptyS fl1)).files).length (S_files_c1106)] 60 :: grow 29 RFile h68 (((aftS emptyS fl1)).files) (S_files_a1105) (S_files_c1106) :: emp :: emp :: emp :: L) w112 := (((hS120.front (i := 7) rfl).front (i := 7) rfl).front (i := 7) rfl)
  refine S_callH (vs := [.pointer (some ⟨D1_b9, 0, none⟩)]) (A := fun hh_ => [row (D1_b9) [.bool ((crashD (⟨true, 0, D1_.n, D1_.held, []⟩ : Dsk) ([])).is), .int .i64 ((crashD (⟨true, 0, D1_.n, D1_.held, []⟩ : Dsk) ([])).left), .int .i64 ((crashD (⟨true, 0, D1_.n, D1_.held, []⟩ : Dsk) ([])).n), .map (some (D1_held_b10)), .slice (D_pend_a1118) ((crashD (⟨true, 0, D1_.n, D1_.held, []⟩ : Dsk) ([])).pend).length (D_pend_c1119)] 78, mpG Mwr (D1_held_b10) ((crashD (⟨true, 0, D1_.n, D1_.held, []⟩ : Dsk) ([])).held) (D_held_k1117), grow 80 RWr hh_ ((crashD (⟨true, 0, D1_.n, D1_.held, []⟩ : Dsk) ([])).pend) (D_pend_a1118) (D_pend_c1119)]) (L := row (D1_b19) [.bool ((newD 3).is), .int .i64 ((newD 3).left), .int .i64 ((newD 3).n), .map (some (D1_held_b20)), .slice (D1_pend_a22) ((newD 3).pend).length (D1_pend_c23)] 78 :: mpG Mwr (D1_held_b20) ((newD 3).held) (D1_held_k21) :: grow 80 RWr h68 ((newD 3).pend) (D1_pend_a22) (D1_pend_c23) :: row (S1_b6) [.pointer (some ⟨D1_b9, 0, none⟩), .int .i64 (((aftS emptyS fl1)).g0), .int .i64 (((aftS emptyS fl1)).z0), .int .i64 (((aftS emptyS fl1)).g1), .int .i64 (((aftS emptyS fl1)).z1), .slice (S_files_a1105) (((aftS emptyS fl1)).files).length (S_files_c1106)] 60 :: grow 29 RFile h68 (((aftS emptyS fl1)).files) (S_files_a1105) (S_files_c1106) :: emp :: emp :: emp :: L) hS123 Tryz.call18 rfl (store_Open (crashD (⟨true, 0, D1_.n, D1_.held, []⟩ : Dsk) ([])) (D1_b9) (D1_held_b10) (D_held_k1117) (D_pend_a1118) (D_pend_c1119) ((aftS emptyS fl1)) ((filesS (aftS emptyS fl1).files)) hn1_ rfl (fix5 n1_ v1_)) trivial ?_
  intro A124 v125 w122 hp126 hS121
  obtain ⟨S1_b127, S1_files_a128, S1_files_c129, rfl, rfl⟩ := hp126
  have hS121 : St Γ h68 (row (D1_b9) [.bool ((crashD (⟨true, 0, D1_.n, D1_.held, []⟩ : Dsk) ([])).is), .int .i64 ((crashD (⟨true, 0, D1_.n, D1_.held, []⟩ : Dsk) ([])).left), .int .i64 ((crashD (⟨true, 0, D1_.n, D1_.held, []⟩ : Dsk) ([])).n), .map (some (D1_held_b10)), .slice (D_pend_a1118) ((crashD (⟨true, 0, D1_.n, D1_.held, []⟩ : Dsk) ([])).pend).length (D_pend_c1119)] 78 :: mpG Mwr (D1_held_b10) ((crashD (⟨true, 0, D1_.n, D1_.held, []⟩ : Dsk) ([])).held) (D_held_k1117) :: grow 80 RWr h68 ((crashD (⟨true, 0, D1_.n, D1_.held, []⟩ : Dsk) ([])).pend) (D_pend_a1118) (D_pend_c1119) :: row (S1_b127) [.pointer (some ⟨D1_b9, 0, none⟩), .int .i64 (((aftS emptyS fl1)).g0), .int .i64 (((aftS emptyS fl1)).z0), .int .i64 (((aftS emptyS fl1)).g1), .int .i64 (((aftS emptyS fl1)).z1), .slice (S1_files_a128) (((aftS emptyS fl1)).files).length (S1_files_c129)] 60 :: grow 29 RFile h68 (((aftS emptyS fl1)).files) (S1_files_a128) (S1_files_c129) :: row (D1_b19) [.bool ((newD 3).is), .int .i64 ((newD 3).left), .int .i64 ((newD 3).n), .map (some (D1_held_b20)), .slice (D1_pend_a22) ((newD 3).pend).length (D1_pend_c23)] 78 :: mpG Mwr (D1_held_b20) ((newD 3).held) (D1_held_k21) :: grow 80 RWr h68 ((newD 3).pend) (D1_pend_a22) (D1_pend_c23) :: row (S1_b6) [.pointer (some ⟨D1_b9, 0, none⟩), .int .i64 (((aftS emptyS fl1)).g0), .int .i64 (((aftS emptyS fl1)).z0), .int .i64 (((aftS emptyS fl1)).g1), .int .i64 (((aftS emptyS fl1)).z1), .slice (S_files_a1105) (((aftS emptyS fl1)).files).length (S_files_c1106)] 60 :: grow 29 RFile h68 (((aftS emptyS fl1)).files) (S_files_a1105) (S_files_c1106) :: emp :: emp :: emp :: L) w122 := hS121
  have hS130 : St Γ h68 (row (S1_b127) [.pointer (some ⟨D1_b9, 0, none⟩), .int .i64 (((aftS emptyS fl1)).g0), .int .i64 (((aftS emptyS fl1)).z0), .int .i64 (((aftS emptyS fl1)).g1), .int .i64 (((aftS emptyS fl1)).z1), .slice (S1_files_a128) (((aftS emptyS fl1)).files).length (S1_files_c129)] 60 :: grow 29 RFile h68 (((aftS emptyS fl1)).files) (S1_files_a128) (S1_files_c129) :: row (D1_b19) [.bool ((newD 3).is), .int .i64 ((newD 3).left), .int .i64 ((newD 3).n), .map (some (D1_held_b20)), .slice (D1_pend_a22) ((newD 3).pend).length (D1_pend_c23)] 78 :: mpG Mwr (D1_held_b20) ((newD 3).held) (D1_held_k21) :: grow 80 RWr h68 ((newD 3).pend) (D1_pend_a22) (D1_pend_c23) :: row (S1_b6) [.pointer (some ⟨D1_b9, 0, none⟩), .int .i64 (((aftS emptyS fl1)).g0), .int .i64 (((aftS emptyS fl1)).z0), .int .i64 (((aftS emptyS fl1)).g1), .int .i64 (((aftS emptyS fl1)).z1), .slice (S_files_a1105) (((aftS emptyS fl1)).files).length (S_files_c1106)] 60 :: grow 29 RFile h68 (((aftS emptyS fl1)).files) (S_files_a1105) (S_files_c1106) :: row (D1_b9) [.bool ((crashD (⟨true, 0, D1_.n, D1_.held, []⟩ : Dsk) ([])).is), .int .i64 ((crashD (⟨true, 0, D1_.n, D1_.held, []⟩ : Dsk) ([])).left), .int .i64 ((crashD (⟨true, 0, D1_.n, D1_.held, []⟩ : Dsk) ([])).n), .map (some (D1_held_b10)), .slice (D_pend_a1118) ((crashD (⟨true, 0, D1_.n, D1_.held, []⟩ : Dsk) ([])).pend).length (D_pend_c1119)] 78 :: mpG Mwr (D1_held_b10) ((crashD (⟨true, 0, D1_.n, D1_.held, []⟩ : Dsk) ([])).held) (D_held_k1117) :: grow 80 RWr h68 ((crashD (⟨true, 0, D1_.n, D1_.held, []⟩ : Dsk) ([])).pend) (D_pend_a1118) (D_pend_c1119) :: L) w122 := (St.back2 (i := 9) (St.back2 (i := 9) (St.back2 (i := 9) hS121 rfl) rfl) rfl)
  refine WL.val1 (R_move (v := .tuple #[.pointer (some ⟨S1_b127, 0, none⟩), .int .i64 (0)]) rfl) ?_
  refine WL.val1 (R_extract (vs := ([.pointer (some ⟨S1_b127, 0, none⟩), .int .i64 (0)] : List Value).toArray) (v := .pointer (some ⟨S1_b127, 0, none⟩)) rfl rfl) ?_
  refine WL.val1 (R_extract (vs := ([.pointer (some ⟨S1_b127, 0, none⟩), .int .i64 (0)] : List Value).toArray) (v := .int .i64 (0)) rfl rfl) ?_
  refine WL.val1 (R_assign (v := .pointer (some ⟨S1_b127, 0, none⟩)) rfl) ?_
  refine WL.val1 (R_assign (v := .int .i64 (0)) rfl) ?_
  refine WL.nil ?_
  refine then_normal ?_
  refine WC.seq ?_
  refine WC.seq ?_
  refine WC.region ?_
  refine WL.val1 (R_move (v := .pointer (some ⟨S1_b127, 0, none⟩)) rfl) ?_
  refine WL.val1 (R_ptrEql rfl rfl Tryz.underlying23) ?_
  refine WL.nil ?_
  refine then_normal ?_
  refine WC.condF rfl ?_
  refine WC.skip ?_
  refine then_normal ?_
  refine WC.seq ?_
  refine WC.region ?_
  refine WL.val1 (R_move (v := .pointer none) rfl) ?_
  refine WL.val1 (R_nilEql rfl rfl Tryz.underlying23) ?_
  refine WL.val1 (R_move (v := .bool (true)) rfl) ?_
  refine WL_unguard (yl_eq (d := 69) rfl rfl) ?_
  refine WL.val1 (R_move (v := .int .i64 (0)) rfl) ?_
  refine WL_unguard (yl_eq (d := 69) rfl rfl) ?_
  refine WL.val1 (R_cast (R_eql (a := 0) (b := 0) rfl rfl) (bool_true (by decide))) ?_
  refine WL.val1 (R_pick (cb := true) (v := .bool (true)) rfl (fun _ => rfl) (fun h => by cases h)) ?_
  refine WL.val1 (R_move (v := .bool (true)) rfl) ?_
  refine WL_unguard (yl_eq (d := 73) rfl rfl) ?_
  refine WL.val1 (R_move (v := .int .i64 (7)) rfl) ?_
  refine WL_unguard (yl_eq (d := 73) rfl rfl) ?_
  refine WL.val1 (R_cast (R_eql (a := 7) (b := 7) rfl rfl) (bool_true (by decide))) ?_
  refine WL.val1 (R_pick (cb := true) (v := .bool (true)) rfl (fun _ => rfl) (fun h => by cases h)) ?_
  refine WL.val1 (R_move (v := .bool (true)) rfl) ?_
  refine WL_unguard (yl_eq (d := 77) rfl rfl) ?_
  refine WL.val1 (R_move (v := .int .i64 (5)) rfl) ?_
  refine WL_unguard (yl_eq (d := 77) rfl rfl) ?_
  refine WL.val1 (R_cast (R_eql (a := 5) (b := 5) rfl rfl) (bool_true (by decide))) ?_
  refine WL.val1 (R_pick (cb := true) (v := .bool (true)) rfl (fun _ => rfl) (fun h => by cases h)) ?_
  refine WL.val1 (R_move (v := .bool (true)) rfl) ?_
  refine WL_unguard (yl_eq (d := 81) rfl rfl) ?_
  refine WL.val1 (R_move (v := .int .i64 (1)) rfl) ?_
  refine WL_unguard (yl_eq (d := 81) rfl rfl) ?_
  refine WL.val1 (R_cast (R_eql (a := 1) (b := 1) rfl rfl) (bool_true (by decide))) ?_
  refine WL.val1 (R_pick (cb := true) (v := .bool (true)) rfl (fun _ => rfl) (fun h => by cases h)) ?_
  refine WL.val1 (R_move (v := .bool (true)) rfl) ?_
  refine WL_unguard (yl_eq (d := 85) rfl rfl) ?_
  refine WL.val1 (R_move (v := .int .i64 (8)) rfl) ?_
  refine WL_unguard (yl_eq (d := 85) rfl rfl) ?_
  refine WL.val1 (R_cast (R_eql (a := 8) (b := 8) rfl rfl) (bool_true (by decide))) ?_
  refine WL.val1 (R_pick (cb := true) (v := .bool (true)) rfl (fun _ => rfl) (fun h => by cases h)) ?_
  refine WL.val1 (R_move (v := .bool (true)) rfl) ?_
  refine WL_unguard (yl_eq (d := 89) rfl rfl) ?_
  refine WL.val1 (R_move (v := .int .i64 (0)) rfl) ?_
  refine WL_unguard (yl_eq (d := 89) rfl rfl) ?_
  refine WL.val1 (R_cast (R_eql (a := 0) (b := 0) rfl rfl) (bool_true (by decide))) ?_
  refine WL.val1 (R_pick (cb := true) (v := .bool (true)) rfl (fun _ => rfl) (fun h => by cases h)) ?_
  refine WL.val1 (R_move (v := .bool (true)) rfl) ?_
  refine WL_unguard (yl_eq (d := 93) rfl rfl) ?_
  refine WL.val1 (R_move (v := .pointer (some ⟨S1_b127, 0, none⟩)) rfl) ?_
  refine WL_unguard (yl_eq (d := 93) rfl rfl) ?_
  have hS133 : St Γ h68 (row (S1_b127) [.pointer (some ⟨D1_b9, 0, none⟩), .int .i64 (((aftS emptyS fl1)).g0), .int .i64 (((aftS emptyS fl1)).z0), .int .i64 (((aftS emptyS fl1)).g1), .int .i64 (((aftS emptyS fl1)).z1), .slice (S1_files_a128) (((aftS emptyS fl1)).files).length (S1_files_c129)] 60 :: grow 29 RFile h68 (((aftS emptyS fl1)).files) (S1_files_a128) (S1_files_c129) :: row (D1_b9) [.bool ((crashD (⟨true, 0, D1_.n, D1_.held, []⟩ : Dsk) ([])).is), .int .i64 ((crashD (⟨true, 0, D1_.n, D1_.held, []⟩ : Dsk) ([])).left), .int .i64 ((crashD (⟨true, 0, D1_.n, D1_.held, []⟩ : Dsk) ([])).n), .map (some (D1_held_b10)), .slice (D_pend_a1118) ((crashD (⟨true, 0, D1_.n, D1_.held, []⟩ : Dsk) ([])).pend).length (D_pend_c1119)] 78 :: mpG Mwr (D1_held_b10) ((crashD (⟨true, 0, D1_.n, D1_.held, []⟩ : Dsk) ([])).held) (D_held_k1117) :: grow 80 RWr h68 ((crashD (⟨true, 0, D1_.n, D1_.held, []⟩ : Dsk) ([])).pend) (D_pend_a1118) (D_pend_c1119) :: emp :: emp :: row (D1_b19) [.bool ((newD 3).is), .int .i64 ((newD 3).left), .int .i64 ((newD 3).n), .map (some (D1_held_b20)), .slice (D1_pend_a22) ((newD 3).pend).length (D1_pend_c23)] 78 :: mpG Mwr (D1_held_b20) ((newD 3).held) (D1_held_k21) :: grow 80 RWr h68 ((newD 3).pend) (D1_pend_a22) (D1_pend_c23) :: row (S1_b6) [.pointer (some ⟨D1_b9, 0, none⟩), .int .i64 (((aftS emptyS fl1)).g0), .int .i64 (((aftS emptyS fl1)).z0), .int .i64 (((aftS emptyS fl1)).g1), .int .i64 (((aftS emptyS fl1)).z1), .slice (S_files_a1105) (((aftS emptyS fl1)).files).length (S_files_c1106)] 60 :: grow 29 RFile h68 (((aftS emptyS fl1)).files) (S_files_a1105) (S_files_c1106) :: emp :: emp :: emp :: L) w122 := (((((hS130.front (i := 9) rfl).front (i := 9) rfl).front (i := 9) rfl).front (i := 4) rfl).front (i := 4) rfl)
  refine S_callH (vs := [.pointer (some ⟨S1_b127, 0, none⟩)]) (A := fun hh_ => [row (S1_b127) [.pointer (some ⟨D1_b9, 0, none⟩), .int .i64 (((aftS emptyS fl1)).g0), .int .i64 (((aftS emptyS fl1)).z0), .int .i64 (((aftS emptyS fl1)).g1), .int .i64 (((aftS emptyS fl1)).z1), .slice (S1_files_a128) (((aftS emptyS fl1)).files).length (S1_files_c129)] 60, grow 29 RFile hh_ (((aftS emptyS fl1)).files) (S1_files_a128) (S1_files_c129), row (D1_b9) [.bool ((crashD (⟨true, 0, D1_.n, D1_.held, []⟩ : Dsk) ([])).is), .int .i64 ((crashD (⟨true, 0, D1_.n, D1_.held, []⟩ : Dsk) ([])).left), .int .i64 ((crashD (⟨true, 0, D1_.n, D1_.held, []⟩ : Dsk) ([])).n), .map (some (D1_held_b10)), .slice (D_pend_a1118) ((crashD (⟨true, 0, D1_.n, D1_.held, []⟩ : Dsk) ([])).pend).length (D_pend_c1119)] 78, mpG Mwr (D1_held_b10) ((crashD (⟨true, 0, D1_.n, D1_.held, []⟩ : Dsk) ([])).held) (D_held_k1117), grow 80 RWr hh_ ((crashD (⟨true, 0, D1_.n, D1_.held, []⟩ : Dsk) ([])).pend) (D_pend_a1118) (D_pend_c1119)]) (L := emp :: emp :: row (D1_b19) [.bool ((newD 3).is), .int .i64 ((newD 3).left), .int .i64 ((newD 3).n), .map (some (D1_held_b20)), .slice (D1_pend_a22) ((newD 3).pend).length (D1_pend_c23)] 78 :: mpG Mwr (D1_held_b20) ((newD 3).held) (D1_held_k21) :: grow 80 RWr h68 ((newD 3).pend) (D1_pend_a22) (D1_pend_c23) :: row (S1_b6) [.pointer (some ⟨D1_b9, 0, none⟩), .int .i64 (((aftS emptyS fl1)).g0), .int .i64 (((aftS emptyS fl1)).z0), .int .i64 (((aftS emptyS fl1)).g1), .int .i64 (((aftS emptyS fl1)).z1), .slice (S_files_a1105) (((aftS emptyS fl1)).files).length (S_files_c1106)] 60 :: grow 29 RFile h68 (((aftS emptyS fl1)).files) (S_files_a1105) (S_files_c1106) :: emp :: emp :: emp :: L) hS133 Tryz.call15 rfl (store_Load (aftS emptyS fl1) (S1_b127) (S1_files_a128) (S1_files_c129) (crashD (⟨true, 0, D1_.n, D1_.held, []⟩ : Dsk) ([])) (D1_b9) (D1_held_b10) (D_held_k1117) (D_pend_a1118) (D_pend_c1119) (by decide)) trivial ?_
  intro A134 v135 w132 hp136 hS131
  obtain ⟨r_a137, r_c138, rfl, rfl⟩ := hp136
  have hS131 : St Γ h68 (row (S1_b127) [.pointer (some ⟨D1_b9, 0, none⟩), .int .i64 (((aftS emptyS fl1)).g0), .int .i64 (((aftS emptyS fl1)).z0), .int .i64 (((aftS emptyS fl1)).g1), .int .i64 (((aftS emptyS fl1)).z1), .slice (S1_files_a128) (((aftS emptyS fl1)).files).length (S1_files_c129)] 60 :: grow 29 RFile h68 (((aftS emptyS fl1)).files) (S1_files_a128) (S1_files_c129) :: row (D1_b9) [.bool ((crashD (⟨true, 0, D1_.n, D1_.held, []⟩ : Dsk) ([])).is), .int .i64 ((crashD (⟨true, 0, D1_.n, D1_.held, []⟩ : Dsk) ([])).left), .int .i64 ((crashD (⟨true, 0, D1_.n, D1_.held, []⟩ : Dsk) ([])).n), .map (some (D1_held_b10)), .slice (D_pend_a1118) ((crashD (⟨true, 0, D1_.n, D1_.held, []⟩ : Dsk) ([])).pend).length (D_pend_c1119)] 78 :: mpG Mwr (D1_held_b10) ((crashD (⟨true, 0, D1_.n, D1_.held, []⟩ : Dsk) ([])).held) (D_held_k1117) :: grow 80 RWr h68 ((crashD (⟨true, 0, D1_.n, D1_.held, []⟩ : Dsk) ([])).pend) (D_pend_a1118) (D_pend_c1119) :: grow 29 RFile h68 ((aftS emptyS fl1).files) (r_a137) (r_c138) :: emp :: emp :: row (D1_b19) [.bool ((newD 3).is), .int .i64 ((newD 3).left), .int .i64 ((newD 3).n), .map (some (D1_held_b20)), .slice (D1_pend_a22) ((newD 3).pend).length (D1_pend_c23)] 78 :: mpG Mwr (D1_held_b20) ((newD 3).held) (D1_held_k21) :: grow 80 RWr h68 ((newD 3).pend) (D1_pend_a22) (D1_pend_c23) :: row (S1_b6) [.pointer (some ⟨D1_b9, 0, none⟩), .int .i64 (((aftS emptyS fl1)).g0), .int .i64 (((aftS emptyS fl1)).z0), .int .i64 (((aftS emptyS fl1)).g1), .int .i64 (((aftS emptyS fl1)).z1), .slice (S_files_a1105) (((aftS emptyS fl1)).files).length (S_files_c1106)] 60 :: grow 29 RFile h68 (((aftS emptyS fl1)).files) (S_files_a1105) (S_files_c1106) :: emp :: emp :: emp :: L) w132 := hS131
  have hS139 : St Γ h68 (grow 29 RFile h68 ((aftS emptyS fl1).files) (r_a137) (r_c138) :: row (S1_b127) [.pointer (some ⟨D1_b9, 0, none⟩), .int .i64 (((aftS emptyS fl1)).g0), .int .i64 (((aftS emptyS fl1)).z0), .int .i64 (((aftS emptyS fl1)).g1), .int .i64 (((aftS emptyS fl1)).z1), .slice (S1_files_a128) (((aftS emptyS fl1)).files).length (S1_files_c129)] 60 :: grow 29 RFile h68 (((aftS emptyS fl1)).files) (S1_files_a128) (S1_files_c129) :: row (D1_b19) [.bool ((newD 3).is), .int .i64 ((newD 3).left), .int .i64 ((newD 3).n), .map (some (D1_held_b20)), .slice (D1_pend_a22) ((newD 3).pend).length (D1_pend_c23)] 78 :: mpG Mwr (D1_held_b20) ((newD 3).held) (D1_held_k21) :: grow 80 RWr h68 ((newD 3).pend) (D1_pend_a22) (D1_pend_c23) :: row (S1_b6) [.pointer (some ⟨D1_b9, 0, none⟩), .int .i64 (((aftS emptyS fl1)).g0), .int .i64 (((aftS emptyS fl1)).z0), .int .i64 (((aftS emptyS fl1)).g1), .int .i64 (((aftS emptyS fl1)).z1), .slice (S_files_a1105) (((aftS emptyS fl1)).files).length (S_files_c1106)] 60 :: grow 29 RFile h68 (((aftS emptyS fl1)).files) (S_files_a1105) (S_files_c1106) :: row (D1_b9) [.bool ((crashD (⟨true, 0, D1_.n, D1_.held, []⟩ : Dsk) ([])).is), .int .i64 ((crashD (⟨true, 0, D1_.n, D1_.held, []⟩ : Dsk) ([])).left), .int .i64 ((crashD (⟨true, 0, D1_.n, D1_.held, []⟩ : Dsk) ([])).n), .map (some (D1_held_b10)), .slice (D_pend_a1118) ((crashD (⟨true, 0, D1_.n, D1_.held, []⟩ : Dsk) ([])).pend).length (D_pend_c1119)] 78 :: mpG Mwr (D1_held_b10) ((crashD (⟨true, 0, D1_.n, D1_.held, []⟩ : Dsk) ([])).held) (D_held_k1117) :: grow 80 RWr h68 ((crashD (⟨true, 0, D1_.n, D1_.held, []⟩ : Dsk) ([])).pend) (D_pend_a1118) (D_pend_c1119) :: L) w132 := (St.back2 (i := 10) (St.back2 (i := 10) (St.back2 (i := 10) (St.back2 (i := 5) (St.back2 (i := 5) hS131 rfl) rfl) rfl) rfl) rfl)
  refine WL_unguard (yl_eq (d := 93) rfl rfl) ?_
  refine WL.val1 (R_move (v := .string (B (fx50))) rfl) ?_
  refine WL_unguard (yl_eq (d := 93) rfl rfl) ?_
  refine WL.val1 (R_build (vs := [(0, .string (B (([97] : Str)))), (1, .string (B (fx50)))]) (v := .agg #[.string (B (([97] : Str))), .string (B (fx50))]) rfl (fun _ => by kernel_rfl)) ?_
  refine WL_unguard (yl_eq (d := 93) rfl rfl) ?_
  refine S_buildSliceC (R := RFile) (m := 1) (vs := [(0, .agg #[.string (B (([97] : Str))), .string (B (fx50))])]) (cells := [.string (B (([97] : Str))), .string (B (fx50))]) (xs := fl1) hS139 Tryz.underlying30 Tryz.sizeOf29 Tryz.zeroValue29 (by decide) (by decide) rfl (by kernel_rfl) (by exact (⟨[.string (B (([97] : Str))), .string (B (fx50))], _, rfl, rfl, rfl⟩ : Flat RFile _ fl1 _)) rfl ?_
  intro h142 b144 w141 hl143 hs145 hS140
  refine WL_unguard (yl_eq (d := 93) rfl rfl) ?_
  obtain ⟨h146, hl147, hs148, hS149, back150⟩ := hS140.lendG (i := 0) rfl hl143
  refine S_callP (vs := [.slice (r_a137) ((aftS emptyS fl1).files).length (r_c138), .slice (some ⟨b144, 0, none⟩) 1 (1)]) hS149 Tryz.call14 rfl (law_Same ((aftS emptyS fl1).files) (r_a137) (r_c138) (fl1) (some ⟨b144, 0, none⟩) (1) (by decide)) ⟨hs148, (hs145.mono hl147)⟩ ?_
  intro w152 hS151
  have hS153 := back150 _ 0 _ rfl hS151
  have hS154 : St Γ h142 (grow 29 RFile h68 ((aftS emptyS fl1).files) (r_a137) (r_c138) :: row (S1_b127) [.pointer (some ⟨D1_b9, 0, none⟩), .int .i64 (((aftS emptyS fl1)).g0), .int .i64 (((aftS emptyS fl1)).z0), .int .i64 (((aftS emptyS fl1)).g1), .int .i64 (((aftS emptyS fl1)).z1), .slice (S1_files_a128) (((aftS emptyS fl1)).files).length (S1_files_c129)] 60 :: grow 29 RFile h68 (((aftS emptyS fl1)).files) (S1_files_a128) (S1_files_c129) :: row (D1_b19) [.bool ((newD 3).is), .int .i64 ((newD 3).left), .int .i64 ((newD 3).n), .map (some (D1_held_b20)), .slice (D1_pend_a22) ((newD 3).pend).length (D1_pend_c23)] 78 :: mpG Mwr (D1_held_b20) ((newD 3).held) (D1_held_k21) :: grow 80 RWr h68 ((newD 3).pend) (D1_pend_a22) (D1_pend_c23) :: row (S1_b6) [.pointer (some ⟨D1_b9, 0, none⟩), .int .i64 (((aftS emptyS fl1)).g0), .int .i64 (((aftS emptyS fl1)).z0), .int .i64 (((aftS emptyS fl1)).g1), .int .i64 (((aftS emptyS fl1)).z1), .slice (S_files_a1105) (((aftS emptyS fl1)).files).length (S_files_c1106)] 60 :: grow 29 RFile h68 (((aftS emptyS fl1)).files) (S_files_a1105) (S_files_c1106) :: row (D1_b9) [.bool ((crashD (⟨true, 0, D1_.n, D1_.held, []⟩ : Dsk) ([])).is), .int .i64 ((crashD (⟨true, 0, D1_.n, D1_.held, []⟩ : Dsk) ([])).left), .int .i64 ((crashD (⟨true, 0, D1_.n, D1_.held, []⟩ : Dsk) ([])).n), .map (some (D1_held_b10)), .slice (D_pend_a1118) ((crashD (⟨true, 0, D1_.n, D1_.held, []⟩ : Dsk) ([])).pend).length (D_pend_c1119)] 78 :: mpG Mwr (D1_held_b10) ((crashD (⟨true, 0, D1_.n, D1_.held, []⟩ : Dsk) ([])).held) (D_held_k1117) :: grow 80 RWr h68 ((crashD (⟨true, 0, D1_.n, D1_.held, []⟩ : Dsk) ([])).pend) (D_pend_a1118) (D_pend_c1119) :: L) w152 := hS153
  refine WL.val1 (R_pick (cb := true) (v := .bool (decide (((aftS emptyS fl1).files) = fl1))) rfl (fun _ => rfl) (fun h => by cases h)) ?_
  refine WL.val1 (R_move (v := .bool (decide (((aftS emptyS fl1).files) = fl1))) rfl) ?_
  refine S_gcallP (vs := [.int .i64 (4)]) (gd := decide (((aftS emptyS fl1).files) = fl1)) hS154 Tryz.call8 (yl_t (d := 101) rfl rfl) (fun hg => rfl) (fun hg => (store_Room (4) (by decide))) (fun hg => trivial) ?_
  intro w156 hS155
  refine WL.gpure (gd := decide (((aftS emptyS fl1).files) = fl1)) (yl_t (d := 101) rfl rfl) (fun hg => R_cast (R_eql (a := (roomS 4)) (b := 64) (gvT hg rfl) rfl) (bool_true (by decide))) ?_
  refine WL.val1 (R_and (cb := decide (((aftS emptyS fl1).files) = fl1)) (yb := true) rfl rfl rfl) ?_
  refine WL.val1 (R_move (v := .bool ((decide (((aftS emptyS fl1).files) = fl1) && true))) rfl) ?_
  refine S_gcallP (vs := [.int .i64 (7)]) (gd := (decide (((aftS emptyS fl1).files) = fl1) && true)) hS155 Tryz.call8 (yl_t (d := 105) rfl rfl) (fun hg => rfl) (fun hg => (store_Room (7) (by decide))) (fun hg => trivial) ?_
  intro w158 hS157
  refine WL.gpure (gd := (decide (((aftS emptyS fl1).files) = fl1) && true)) (yl_t (d := 105) rfl rfl) (fun hg => R_cast (R_eql (a := (roomS 7)) (b := 128) (gvT hg rfl) rfl) (bool_true (by decide))) ?_
  refine WL.val1 (R_and (cb := (decide (((aftS emptyS fl1).files) = fl1) && true)) (yb := true) rfl rfl rfl) ?_
  refine WL.val1 (R_move (v := .bool (((decide (((aftS emptyS fl1).files) = fl1) && true) && true))) rfl) ?_
  refine S_gcallP (vs := [.int .i64 (3)]) (gd := ((decide (((aftS emptyS fl1).files) = fl1) && true) && true)) hS157 Tryz.call8 (yl_t (d := 109) rfl rfl) (fun hg => rfl) (fun hg => (store_Room (3) (by decide))) (fun hg => trivial) ?_
  intro w160 hS159
  refine WL.gpure (gd := ((decide (((aftS emptyS fl1).files) = fl1) && true) && true)) (yl_t (d := 109) rfl rfl) (fun hg => R_cast (R_eql (a := (roomS 3)) (b := 0) (gvT hg rfl) rfl) (bool_true (by decide))) ?_
  refine WL.val1 (R_and (cb := ((decide (((aftS emptyS fl1).files) = fl1) && true) && true)) (yb := true) rfl rfl rfl) ?_
  refine WL.val1 (R_assign (v := .bool ((((decide (((aftS emptyS fl1).files) = fl1) && true) && true) && true))) rfl) ?_
  refine WL.nil ?_
  refine then_normal ?_
  refine WC.ret ?_
  refine top_ret (.bool ((((decide (((aftS emptyS fl1).files) = fl1) && true) && true) && true))) (gives1 rfl rfl) ?_
  exact ⟨(by rfl), (hS159.pop.pop.pop.pop.pop.pop.pop.pop.pop.pop.pop.weaken_h (((hl27.trans hl48).trans hl69).trans hl143))⟩
end Go.Stet
