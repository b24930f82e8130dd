/- What the layers compute, in plain Lean, and laws about that. Each under the conditions that its own statement names. -/
import Derived.Test.YtcnhcckbdmjdiaaGreatDoorSeatS3
import Derived.Test.YtcnhcckbdmjdiaaGreatDoorBldS
import Derived.Test.YtcnhcckbdmjdiaaGreatDoorEng18
import Derived.Test.YtcnhcckbdmjdiaaGreatDoorSpecS1
import Derived.Test.YtcnhcckbdmjdiaaGreatDoorS2
set_option linter.all false
set_option linter.unusedSimpArgs false
set_option linter.unusedVariables false
namespace Go.Stet
open Go Go.Eng Go.Proofs
set_option maxHeartbeats 400000 in
theorem disk_Sync (D : Dsk) (D_b : Nat) (D_held_b D_held_k : Nat) (D_pend_a : Option Addr) (D_pend_c : Nat) (hp : D.pend.length ≤ 1000000) : MutH GG Tryz.prog 32 (fun _ => True) [.pointer (some ⟨D_b, 0, none⟩)] (fun h => [row (D_b) [.bool (D.is), .int .i64 (D.left), .int .i64 (D.n), .map (some (D_held_b)), .slice (D_pend_a) (D.pend).length (D_pend_c)] 78, mpG Mwr (D_held_b) (D.held) (D_held_k), grow 80 RWr h (D.pend) (D_pend_a) (D_pend_c)]) (fun h A v => ∃ (D_held_k1 : Nat) (D_pend_a1 : Option Addr) (D_pend_c1 : Nat), v = .int .i64 ((syncD D).2) ∧ A = [row (D_b) [.bool (((syncD D).1).is), .int .i64 (((syncD D).1).left), .int .i64 (((syncD D).1).n), .map (some (D_held_b)), .slice (D_pend_a1) (((syncD D).1).pend).length (D_pend_c1)] 78, mpG Mwr (D_held_b) (((syncD D).1).held) (D_held_k1), grow 80 RWr h (((syncD D).1).pend) (D_pend_a1) (D_pend_c1)]) := by
  intro Γ h L w hpre hS
  refine Ret.body Tryz.func32 rfl Tryz.ntmps32 (Nat.le_of_ble_eq_true rfl) ?_
  have hS : St Γ h (row (D_b) [.bool (D.is), .int .i64 (D.left), .int .i64 (D.n), .map (some (D_held_b)), .slice (D_pend_a) (D.pend).length (D_pend_c)] 78 :: mpG Mwr (D_held_b) (D.held) (D_held_k) :: grow 80 RWr h (D.pend) (D_pend_a) (D_pend_c) :: L) w := hS
  refine WC.seq ?_
  refine WC.region ?_
  refine WL.val1 (R_assign (v := .int .i64 (0)) rfl) ?_
  refine WL.nil ?_
  refine then_normal ?_
  refine WC.seq ?_
  refine WC.seq ?_
  refine WC.region ?_
  refine WL.val1 (R_move (v := .pointer (some ⟨D_b, 0, none⟩)) rfl) ?_
  refine WL.val1 (R_nilCheck rfl) ?_
  refine WL.val1 (R_fieldAddr (b := D_b) (off := 0) (m := 0) rfl (fun _ => by kernel_rfl)) ?_
  refine S_callH (vs := [.pointer (some ⟨D_b, 0, none⟩)]) (A := fun hh_ => [row (D_b) [.bool (D.is), .int .i64 (D.left), .int .i64 (D.n), .map (some (D_held_b)), .slice (D_pend_a) (D.pend).length (D_pend_c)] 78, mpG Mwr (D_held_b) (D.held) (D_held_k), grow 80 RWr hh_ (D.pend) (D_pend_a) (D_pend_c)]) (L := L) hS Tryz.call48 rfl (disk_use (D) (D_b) (D_held_b) (D_held_k) (D_pend_a) (D_pend_c)) trivial ?_
  intro A3 v4 w2 hp5 hS1
  obtain ⟨rfl, rfl⟩ := hp5
  have hS1 : St Γ h (row (D_b) [.bool (D.is), .int .i64 (useL D), .int .i64 (D.n), .map (some (D_held_b)), .slice (D_pend_a) (D.pend).length (D_pend_c)] 78 :: mpG Mwr (D_held_b) (D.held) (D_held_k) :: grow 80 RWr h (D.pend) (D_pend_a) (D_pend_c) :: L) w2 := hS1
  refine WL.val1 (R_not (b := (!outD D)) rfl) ?_
  refine WL.nil ?_
  refine then_normal ?_
  refine WC.condI (¬ (((!outD D)) = true)) (b := (!((!outD D)))) rfl (b_not Iff.rfl) (fun c0 => ?_) (fun c0 => ?_)
  · skip
    refine WC.seq ?_
    refine WC.region ?_
    refine WL.val1 (R_assign (v := .int .i64 (8)) rfl) ?_
    refine WL.nil ?_
    refine then_normal ?_
    refine WC.ret ?_
    refine then_ret ?_
    refine top_ret (.int .i64 (8)) (gives1 rfl rfl) ?_
    have e_ : syncD D = (⟨D.is, useL D, D.n, D.held, D.pend⟩, 8) := by unfold syncD; rw [if_pos (by simpa using c0)]
    exact ⟨[row (D_b) [.bool (D.is), .int .i64 (useL D), .int .i64 (D.n), .map (some (D_held_b)), .slice (D_pend_a) (D.pend).length (D_pend_c)] 78, mpG Mwr (D_held_b) (D.held) (D_held_k), grow 80 RWr h (D.pend) (D_pend_a) (D_pend_c)], ⟨D_held_k, D_pend_a, D_pend_c, (by first | rfl | (rw [e_]; done) | (rw [e_]; rfl) | (simp; done)), (by first | rfl | (rw [e_]; done) | (rw [e_]; rfl))⟩, hS1⟩
  · skip
    refine WC.skip ?_
    refine then_normal ?_
    refine WC.seq ?_
    refine WC.region ?_
    refine WL.val1 (R_move (v := .pointer (some ⟨D_b, 0, none⟩)) rfl) ?_
    refine WL.val1 (R_makeFunc (v := .func (.func 37) #[.pointer (some ⟨D_b, 0, none⟩)] #[]) rfl) ?_
    refine WL.val1 (R_assign (v := .func (.func 37) #[.pointer (some ⟨D_b, 0, none⟩)] #[]) rfl) ?_
    refine WL.nil ?_
    refine then_normal ?_
    refine WC.seq ?_
    refine WC.seq ?_
    refine WC.region ?_
    refine WL.val1 (R_move (v := .pointer (some ⟨D_b, 0, none⟩)) rfl) ?_
    refine WL.val1 (R_nilCheck rfl) ?_
    refine WL.val1 (R_fieldAddr (b := D_b) (off := 0) (m := 4) rfl (fun _ => by kernel_rfl)) ?_
    refine WL.val1 (R_load (v := .slice (D_pend_a) (D.pend).length (D_pend_c)) rfl (hS1.has (i := 0) rfl) (Tryz.isAgg76 _) rfl) ?_
    refine WL.val1 (R_len_slice (n := (D.pend).length) rfl Tryz.underlying76) ?_
    refine WL.val1 (R_move (v := .int .i64 (0)) rfl) ?_
    refine WL.nil ?_
    refine then_normal ?_
    refine WC.block ?_
    refine WC.loopL (σ := Nat × (Int → Option Wr) × Nat)
      (fun (q_ : Nat × (Int → Option Wr) × Nat) => (fun (i : Nat) (f : Int → Option Wr) (k : Nat) => [(0, .pointer (some ⟨D_b, 0, none⟩)), (3, .func (.func 37) #[.pointer (some ⟨D_b, 0, none⟩)] #[]), (16, .slice (D_pend_a) (D.pend).length (D_pend_c)), (17, .int .i64 ((((D.pend).length : Nat) : Int))), (18, .int .i64 (((i : Nat) : Int)))]) (q_.1) (q_.2.1) (q_.2.2))
      (fun (q_ : Nat × (Int → Option Wr) × Nat) (w_ : World) => (fun (i : Nat) (f : Int → Option Wr) (k : Nat) => ∃ h8 : Hp, h.le h8 ∧ St Γ h8 (row (D_b) [.bool (D.is), .int .i64 (useL D), .int .i64 (D.n), .map (some (D_held_b)), .slice (D_pend_a) (D.pend).length (D_pend_c)] 78 :: mpG Mwr (D_held_b) (f) (k) :: grow 80 RWr h8 (D.pend) (D_pend_a) (D_pend_c) :: L) w_ ∧ (i ≤ D.pend.length) ∧ (doAll f (D.pend.drop i) = doAll D.held D.pend)) (q_.1) (q_.2.1) (q_.2.2))
      (fun (q_ : Nat × (Int → Option Wr) × Nat) => (fun (i : Nat) (f : Int → Option Wr) (k : Nat) => D.pend.length - i) (q_.1) (q_.2.1) (q_.2.2)) (0, (D.held), (D_held_k)) ?_ ?_ ?_
    · exact ⟨rfl, rfl, rfl, rfl, (by first | rfl | (apply congrArg (Value.int .i64); omega) | simp), trivial⟩
    · exact ⟨h, Hp.le_refl _, hS1, (by first | assumption | omega | simp), (by rfl)⟩
    · rintro ⟨i, f, k⟩ r10 w7 ⟨h8, hl9, hS6, f1, f2⟩
      try dsimp only at f1 f2
      refine WC.seq ?_
      refine WC.region ?_
      refine WL.val1 (R_lss (a := ((i : Nat) : Int)) (b := (((D.pend).length : Nat) : Int)) rfl rfl) ?_
      refine WL.nil ?_
      refine then_normal ?_
      refine WC.seq ?_
      refine WC.condP (((i : Nat) : Int) < (((D.pend).length : Nat) : Int)) rfl (fun c1 => ?_) (fun c1 => ?_)
      · skip
        refine WC.skip ?_
        refine then_normal ?_
        refine WC.seq ?_
        refine WC.block ?_
        refine WC.seq ?_
        refine WC.region ?_
        obtain ⟨z13, hz14⟩ : ∃ z, (D.pend)[i]? = some z := ⟨_, List.getElem?_eq_getElem (by omega)⟩
        obtain ⟨b11, cu15, cs16, hb12, hr17, hh18, hc19⟩ := hS6.growAt (i := 2) (m := i) (z := z13) rfl hz14
        subst hr17
        refine WL.val1 (R_indexAddrE (i := ((i : Nat) : Int)) (m := i) hb12 rfl rfl Tryz.underlying76 (Tryz.sizeOf80 _) (by first | rfl | (omega)) (by omega)) ?_
        refine WL.val1 (R_loadA (cs := [.int .i64 (z13.i), .string (B (z13.s))]) rfl hh18 (Tryz.isAgg80 _) (Tryz.sizeOf80 _) rfl hc19) ?_
        refine S_alloc hS6 Tryz.zeroValue80 ?_
        intro w21 hS20
        refine S_store (i := 0) (b := w7.heap.size) (l := [.int .i64 (0), .string (B (([] : Str)))]) (l' := [.int .i64 (z13.i), .string (B (z13.s))]) (vs := [.int .i64 (z13.i), .string (B (z13.s))]) (v := .agg #[.int .i64 (z13.i), .string (B (z13.s))]) hS20 rfl rfl rfl Tryz.sizeOf80 rfl rfl rfl (Nat.le_of_ble_eq_true rfl) rfl rfl ?_
        intro w23 hS22
        refine WL.nil ?_
        refine then_normal ?_
        refine WC.region ?_
        refine WL.val1 (R_move (v := .func (.func 37) #[.pointer (some ⟨D_b, 0, none⟩)] #[]) rfl) ?_
        refine WL.val1 (R_loadA (cs := [.int .i64 (z13.i), .string (B (z13.s))]) rfl (hS22.has (i := 0) rfl) (Tryz.isAgg80 _) (Tryz.sizeOf80 _) rfl (sub_cells rfl)) ?_
        have hS26 : St Γ h8 (row (D_b) [.bool (D.is), .int .i64 (useL D), .int .i64 (D.n), .map (some (D_held_b)), .slice (D_pend_a) (D.pend).length (D_pend_c)] 78 :: mpG Mwr (D_held_b) (f) (k) :: grow 80 RWr h8 (D.pend) (D_pend_a) (D_pend_c) :: row (w7.heap.size) [.int .i64 (z13.i), .string (B (z13.s))] 80 :: emp :: emp :: emp :: L) w23 := (((hS22.front (i := 3) rfl).front (i := 3) rfl).front (i := 3) rfl)
        refine S_callvH (fst := [.pointer (some ⟨D_b, 0, none⟩)]) (cap := []) (vs := [.agg #[.int .i64 (z13.i), .string (B (z13.s))]]) (A := fun hh_ => [row (D_b) [.bool (D.is), .int .i64 (useL D), .int .i64 (D.n), .map (some (D_held_b)), .slice (D_pend_a) (D.pend).length (D_pend_c)] 78, mpG Mwr (D_held_b) (f) (k), grow 80 RWr hh_ (D.pend) (D_pend_a) (D_pend_c)]) (L := row (w7.heap.size) [.int .i64 (z13.i), .string (B (z13.s))] 80 :: emp :: emp :: emp :: L) rfl hS26 Tryz.call37 rfl (disk_do ({ is := D.is, left := useL D, n := D.n, held := f, pend := D.pend } : Dsk) (D_b) (D_held_b) (k) (D_pend_a) (D_pend_c) (z13)) trivial ?_
        intro A27 v28 w25 hp29 hS24
        obtain ⟨D_held_k130, rfl, rfl⟩ := hp29
        have hS24 : St Γ h8 (row (D_b) [.bool (D.is), .int .i64 (useL D), .int .i64 (D.n), .map (some (D_held_b)), .slice (D_pend_a) (D.pend).length (D_pend_c)] 78 :: mpG Mwr (D_held_b) (fputo f z13.i z13) (D_held_k130) :: grow 80 RWr h8 (D.pend) (D_pend_a) (D_pend_c) :: row (w7.heap.size) [.int .i64 (z13.i), .string (B (z13.s))] 80 :: emp :: emp :: emp :: L) w25 := hS24
        have hS31 : St Γ h8 (row (w7.heap.size) [.int .i64 (z13.i), .string (B (z13.s))] 80 :: row (D_b) [.bool (D.is), .int .i64 (useL D), .int .i64 (D.n), .map (some (D_held_b)), .slice (D_pend_a) (D.pend).length (D_pend_c)] 78 :: mpG Mwr (D_held_b) (fputo f z13.i z13) (D_held_k130) :: grow 80 RWr h8 (D.pend) (D_pend_a) (D_pend_c) :: L) w25 := (St.back2 (i := 3) (St.back2 (i := 3) (St.back2 (i := 3) hS24 rfl) rfl) rfl)
        refine WL.nil ?_
        refine block_normal ?_
        refine then_normal ?_
        refine WC.region ?_
        refine WL.val1 (R_add_i (a := ((i : Nat) : Int)) (b := 1) rfl rfl (by omega)) ?_
        refine WL.val1 (R_move (v := .int .i64 ((((i : Nat) : Int) + 1))) rfl) ?_
        refine WL.nil ?_
        refine then_normal ?_
        exact ⟨(i + 1, (fputo f z13.i z13), (D_held_k130)), ⟨rfl, rfl, rfl, rfl, (by first | rfl | (apply congrArg (Value.int .i64); omega) | simp), trivial⟩, ⟨h8, hl9, hS31.pop, (by (try dsimp only); first | assumption | omega | simp), (by (try dsimp only); rw [← f2]; exact (doAll_step (by assumption) f).symm)⟩, (by first | (simp only []; omega) | (simp; omega))⟩
      · skip
        refine WC.exit ?_
        refine then_exit ?_
        refine then_exit ?_
        refine block_exit ?_
        refine then_normal ?_
        refine WC.seq ?_
        refine WC.region ?_
        refine WL.val1 (R_move (v := .pointer (some ⟨D_b, 0, none⟩)) rfl) ?_
        refine WL.val1 (R_nilCheck rfl) ?_
        refine WL.val1 (R_fieldAddr (b := D_b) (off := 0) (m := 4) rfl (fun _ => by kernel_rfl)) ?_
        refine S_store (i := 0) (b := D_b) (l := [.bool (D.is), .int .i64 (useL D), .int .i64 (D.n), .map (some (D_held_b)), .slice (D_pend_a) (D.pend).length (D_pend_c)]) (l' := [.bool (D.is), .int .i64 (useL D), .int .i64 (D.n), .map (some (D_held_b)), .slice none 0 0]) (vs := [.slice none 0 0]) (v := .slice none 0 0) hS6 rfl rfl rfl Tryz.sizeOf76 rfl rfl rfl (Nat.le_of_ble_eq_true rfl) rfl rfl ?_
        intro w33 hS32
        refine WL.nil ?_
        refine then_normal ?_
        refine WC.seq ?_
        refine WC.region ?_
        refine WL.val1 (R_assign (v := .int .i64 (0)) rfl) ?_
        refine WL.nil ?_
        refine then_normal ?_
        refine WC.ret ?_
        refine top_ret (.int .i64 (0)) (gives1 rfl rfl) ?_
        have e_ : syncD D = (⟨D.is, useL D, D.n, f, []⟩, 0) := by unfold syncD; rw [if_neg (by simpa using c0), ← f2, doAll_end (by omega)]
        have hS34 := hS32.growNil 80 RWr h8
        have hS35 : St Γ h8 (row (D_b) [.bool (D.is), .int .i64 (useL D), .int .i64 (D.n), .map (some (D_held_b)), .slice (none) 0 (0)] 78 :: mpG Mwr (D_held_b) (f) (k) :: grow 80 RWr h8 (([] : List Wr)) (none) (0) :: L) w33 := ((((hS34.move (i := 0) rfl).move (i := 2) rfl).move (i := 2) rfl).remove 3)
        exact ⟨[row (D_b) [.bool (D.is), .int .i64 (useL D), .int .i64 (D.n), .map (some (D_held_b)), .slice (none) 0 (0)] 78, mpG Mwr (D_held_b) (f) (k), grow 80 RWr h (([] : List Wr)) (none) (0)], ⟨k, none, 0, (by first | rfl | (rw [e_]; done) | (rw [e_]; rfl) | (simp; done)), (by first | rfl | (rw [e_]; done) | (rw [e_]; rfl))⟩, ((hS35.growFree (i := 2) h RWr_free rfl).weaken_h hl9)⟩
set_option maxHeartbeats 400000 in
theorem disk_Crash (D : Dsk) (D_b : Nat) (D_held_b D_held_k : Nat) (D_pend_a : Option Addr) (D_pend_c : Nat) (keep : List Bool) (keep_a : Option Addr) (keep_c : Nat) (hp : D.pend.length ≤ 1000000) : MutH GG Tryz.prog 17 (fun h => Sl Rbool h keep keep_a keep_c) [.pointer (some ⟨D_b, 0, none⟩), .slice (keep_a) (keep).length (keep_c)] (fun h => [row (D_b) [.bool (D.is), .int .i64 (D.left), .int .i64 (D.n), .map (some (D_held_b)), .slice (D_pend_a) (D.pend).length (D_pend_c)] 78, mpG Mwr (D_held_b) (D.held) (D_held_k), grow 80 RWr h (D.pend) (D_pend_a) (D_pend_c)]) (fun h A v => ∃ (D_held_k1 : Nat) (D_pend_a1 : Option Addr) (D_pend_c1 : Nat), v = .tuple #[] ∧ A = [row (D_b) [.bool ((crashD D keep).is), .int .i64 ((crashD D keep).left), .int .i64 ((crashD D keep).n), .map (some (D_held_b)), .slice (D_pend_a1) ((crashD D keep).pend).length (D_pend_c1)] 78, mpG Mwr (D_held_b) ((crashD D keep).held) (D_held_k1), grow 80 RWr h ((crashD D keep).pend) (D_pend_a1) (D_pend_c1)]) := by
  intro Γ h L w hpre hS
  have sl_keep := hpre
  refine Ret.body Tryz.func17 rfl Tryz.ntmps17 (Nat.le_of_ble_eq_true rfl) ?_
  have hS : St Γ h (row (D_b) [.bool (D.is), .int .i64 (D.left), .int .i64 (D.n), .map (some (D_held_b)), .slice (D_pend_a) (D.pend).length (D_pend_c)] 78 :: mpG Mwr (D_held_b) (D.held) (D_held_k) :: grow 80 RWr h (D.pend) (D_pend_a) (D_pend_c) :: L) w := hS
  refine WC.seq ?_
  refine WC.seq ?_
  refine WC.region ?_
  refine WL.val1 (R_move (v := .pointer (some ⟨D_b, 0, none⟩)) rfl) ?_
  refine WL.val1 (R_nilCheck rfl) ?_
  refine WL.val1 (R_fieldAddr (b := D_b) (off := 0) (m := 4) rfl (fun _ => by kernel_rfl)) ?_
  refine WL.val1 (R_load (v := .slice (D_pend_a) (D.pend).length (D_pend_c)) rfl (hS.has (i := 0) rfl) (Tryz.isAgg76 _) rfl) ?_
  refine WL.val1 (R_len_slice (n := (D.pend).length) rfl Tryz.underlying76) ?_
  refine WL.val1 (R_move (v := .int .i64 (0)) rfl) ?_
  refine WL.nil ?_
  refine then_normal ?_
  refine WC.block ?_
  refine WC.loopL (σ := Nat × (Int → Option Wr) × Nat)
    (fun (q_ : Nat × (Int → Option Wr) × Nat) => (fun (i : Nat) (f : Int → Option Wr) (k : Nat) => [(0, .pointer (some ⟨D_b, 0, none⟩)), (1, .slice (keep_a) (keep).length (keep_c)), (9, .slice (D_pend_a) (D.pend).length (D_pend_c)), (10, .int .i64 ((((D.pend).length : Nat) : Int))), (11, .int .i64 (((i : Nat) : Int)))]) (q_.1) (q_.2.1) (q_.2.2))
    (fun (q_ : Nat × (Int → Option Wr) × Nat) (w_ : World) => (fun (i : Nat) (f : Int → Option Wr) (k : Nat) => ∃ h3 : Hp, h.le h3 ∧ St Γ h3 (row (D_b) [.bool (D.is), .int .i64 (D.left), .int .i64 (D.n), .map (some (D_held_b)), .slice (D_pend_a) (D.pend).length (D_pend_c)] 78 :: mpG Mwr (D_held_b) (f) (k) :: grow 80 RWr h3 (D.pend) (D_pend_a) (D_pend_c) :: L) w_ ∧ (i ≤ D.pend.length) ∧ (doSome f (D.pend.drop i) (keep.drop i) = doSome D.held D.pend keep)) (q_.1) (q_.2.1) (q_.2.2))
    (fun (q_ : Nat × (Int → Option Wr) × Nat) => (fun (i : Nat) (f : Int → Option Wr) (k : Nat) => D.pend.length - i) (q_.1) (q_.2.1) (q_.2.2)) (0, (D.held), (D_held_k)) ?_ ?_ ?_
  · exact ⟨rfl, rfl, rfl, rfl, (by first | rfl | (apply congrArg (Value.int .i64); omega) | simp), trivial⟩
  · exact ⟨h, Hp.le_refl _, hS, (by first | assumption | omega | simp), (by rfl)⟩
  · rintro ⟨i, f, k⟩ r5 w2 ⟨h3, hl4, hS1, f1, f2⟩
    try dsimp only at f1 f2
    refine WC.seq ?_
    refine WC.region ?_
    refine WL.val1 (R_lss (a := ((i : Nat) : Int)) (b := (((D.pend).length : Nat) : Int)) rfl rfl) ?_
    refine WL.nil ?_
    refine then_normal ?_
    refine WC.seq ?_
    refine WC.condP (((i : Nat) : Int) < (((D.pend).length : Nat) : Int)) rfl (fun c0 => ?_) (fun c0 => ?_)
    · skip
      refine WC.skip ?_
      refine then_normal ?_
      refine WC.seq ?_
      refine WC.block ?_
      refine WC.seq ?_
      refine WC.region ?_
      refine WL.val1 (R_move (v := .int .i64 (((i : Nat) : Int))) rfl) ?_
      obtain ⟨z8, hz9⟩ : ∃ z, (D.pend)[i]? = some z := ⟨_, List.getElem?_eq_getElem (by omega)⟩
      obtain ⟨b6, cu10, cs11, hb7, hr12, hh13, hc14⟩ := hS1.growAt (i := 2) (m := i) (z := z8) rfl hz9
      subst hr12
      refine WL.val1 (R_indexAddrE (i := ((i : Nat) : Int)) (m := i) hb7 rfl rfl Tryz.underlying76 (Tryz.sizeOf80 _) (by first | rfl | (omega)) (by omega)) ?_
      refine WL.val1 (R_loadA (cs := [.int .i64 (z8.i), .string (B (z8.s))]) rfl hh13 (Tryz.isAgg80 _) (Tryz.sizeOf80 _) rfl hc14) ?_
      refine S_alloc hS1 Tryz.zeroValue80 ?_
      intro w16 hS15
      refine WL.val1 (R_assign (v := .int .i64 (((i : Nat) : Int))) rfl) ?_
      refine S_store (i := 0) (b := w2.heap.size) (l := [.int .i64 (0), .string (B (([] : Str)))]) (l' := [.int .i64 (z8.i), .string (B (z8.s))]) (vs := [.int .i64 (z8.i), .string (B (z8.s))]) (v := .agg #[.int .i64 (z8.i), .string (B (z8.s))]) hS15 rfl rfl rfl Tryz.sizeOf80 rfl rfl rfl (Nat.le_of_ble_eq_true rfl) rfl rfl ?_
      intro w18 hS17
      refine WL.nil ?_
      refine then_normal ?_
      refine WC.seq ?_
      by_cases hk : i < keep.length
      · skip
        refine WC.region ?_
        refine WL.val1 (R_move (v := .int .i64 (((i : Nat) : Int))) rfl) ?_
        refine WL.val1 (R_move (v := .slice (keep_a) (keep).length (keep_c)) rfl) ?_
        refine WL.val1 (R_len_slice (n := (keep).length) rfl Tryz.underlying39) ?_
        refine WL.val1 (R_cast (R_lss (a := ((i : Nat) : Int)) (b := (((keep).length : Nat) : Int)) rfl rfl) (bool_true (by exact decide_eq_true (by omega)))) ?_
        refine WL.val1 (R_move (v := .bool (true)) rfl) ?_
        refine WL_unguard (yl_eq (d := 20) rfl rfl) ?_
        refine WL.val1 (R_move (v := .slice (keep_a) (keep).length (keep_c)) rfl) ?_
        refine WL_unguard (yl_eq (d := 20) rfl rfl) ?_
        refine WL.val1 (R_move (v := .int .i64 (((i : Nat) : Int))) rfl) ?_
        refine WL_unguard (yl_eq (d := 20) rfl rfl) ?_
        obtain ⟨z_keep_i, hz_keep_i⟩ : ∃ z, (keep)[i]? = some z := ⟨_, List.getElem?_eq_getElem (by omega)⟩
        obtain ⟨b19, o20, cs24, ha21, hr22, hat23⟩ := (sl_keep.mono hl4).2 i z_keep_i hz_keep_i
        subst hr22
        refine WL.val1 (R_indexAddrE (i := ((i : Nat) : Int)) (m := i) ha21 rfl rfl Tryz.underlying39 (Tryz.sizeOf4 _) (by first | rfl | (omega)) (by omega)) ?_
        refine WL_unguard (yl_eq (d := 20) rfl rfl) ?_
        refine WL.val1 (R_loadC (v := .bool (z_keep_i)) hS17 rfl hat23 Tryz.isAgg4 rfl) ?_
        refine WL.val1 (R_pick (cb := true) (v := .bool (z_keep_i)) rfl (fun _ => rfl) (fun h => by cases h)) ?_
        refine WL.nil ?_
        refine then_normal ?_
        refine WC.condI ((z_keep_i) = true) (b := z_keep_i) rfl Iff.rfl (fun c1 => ?_) (fun c1 => ?_)
        · skip
          refine WC.region ?_
          refine WL.val1 (R_move (v := .pointer (some ⟨D_b, 0, none⟩)) rfl) ?_
          refine WL.val1 (R_loadA (cs := [.int .i64 (z8.i), .string (B (z8.s))]) rfl (hS17.has (i := 0) rfl) (Tryz.isAgg80 _) (Tryz.sizeOf80 _) rfl (sub_cells rfl)) ?_
          have hS27 : St Γ h3 (row (D_b) [.bool (D.is), .int .i64 (D.left), .int .i64 (D.n), .map (some (D_held_b)), .slice (D_pend_a) (D.pend).length (D_pend_c)] 78 :: mpG Mwr (D_held_b) (f) (k) :: grow 80 RWr h3 (D.pend) (D_pend_a) (D_pend_c) :: row (w2.heap.size) [.int .i64 (z8.i), .string (B (z8.s))] 80 :: emp :: emp :: emp :: L) w18 := (((hS17.front (i := 3) rfl).front (i := 3) rfl).front (i := 3) rfl)
          refine S_callH (vs := [.pointer (some ⟨D_b, 0, none⟩), .agg #[.int .i64 (z8.i), .string (B (z8.s))]]) (A := fun hh_ => [row (D_b) [.bool (D.is), .int .i64 (D.left), .int .i64 (D.n), .map (some (D_held_b)), .slice (D_pend_a) (D.pend).length (D_pend_c)] 78, mpG Mwr (D_held_b) (f) (k), grow 80 RWr hh_ (D.pend) (D_pend_a) (D_pend_c)]) (L := row (w2.heap.size) [.int .i64 (z8.i), .string (B (z8.s))] 80 :: emp :: emp :: emp :: L) hS27 Tryz.call37 rfl (disk_do ({ is := D.is, left := D.left, n := D.n, held := f, pend := D.pend } : Dsk) (D_b) (D_held_b) (k) (D_pend_a) (D_pend_c) (z8)) trivial ?_
          intro A28 v29 w26 hp30 hS25
          obtain ⟨D_held_k131, rfl, rfl⟩ := hp30
          have hS25 : St Γ h3 (row (D_b) [.bool (D.is), .int .i64 (D.left), .int .i64 (D.n), .map (some (D_held_b)), .slice (D_pend_a) (D.pend).length (D_pend_c)] 78 :: mpG Mwr (D_held_b) (fputo f z8.i z8) (D_held_k131) :: grow 80 RWr h3 (D.pend) (D_pend_a) (D_pend_c) :: row (w2.heap.size) [.int .i64 (z8.i), .string (B (z8.s))] 80 :: emp :: emp :: emp :: L) w26 := hS25
          have hS32 : St Γ h3 (row (w2.heap.size) [.int .i64 (z8.i), .string (B (z8.s))] 80 :: row (D_b) [.bool (D.is), .int .i64 (D.left), .int .i64 (D.n), .map (some (D_held_b)), .slice (D_pend_a) (D.pend).length (D_pend_c)] 78 :: mpG Mwr (D_held_b) (fputo f z8.i z8) (D_held_k131) :: grow 80 RWr h3 (D.pend) (D_pend_a) (D_pend_c) :: L) w26 := (St.back2 (i := 3) (St.back2 (i := 3) (St.back2 (i := 3) hS25 rfl) rfl) rfl)
          refine WL.nil ?_
          refine block_normal ?_
          refine then_normal ?_
          refine WC.region ?_
          refine WL.val1 (R_add_i (a := ((i : Nat) : Int)) (b := 1) rfl rfl (by omega)) ?_
          refine WL.val1 (R_move (v := .int .i64 ((((i : Nat) : Int) + 1))) rfl) ?_
          refine WL.nil ?_
          refine then_normal ?_
          exact ⟨(i + 1, (fputo f z8.i z8), (D_held_k131)), ⟨rfl, rfl, rfl, rfl, (by first | rfl | (apply congrArg (Value.int .i64); omega) | simp), trivial⟩, ⟨h3, hl4, hS32.pop, (by (try dsimp only); first | assumption | omega | simp), (by (try dsimp only); rw [← f2]; first | exact (doSome_yes (by assumption) (hz_keep_i.trans (congrArg some c1)) f).symm | exact (doSome_no (by assumption) (hz_keep_i.trans (congrArg some (bool_no c1))) f).symm | rw [doSome_out (by omega), doSome_out (by omega)])⟩, (by first | (simp only []; omega) | (simp; omega))⟩
        · skip
          refine WC.skip ?_
          refine block_normal ?_
          refine then_normal ?_
          refine WC.region ?_
          refine WL.val1 (R_add_i (a := ((i : Nat) : Int)) (b := 1) rfl rfl (by omega)) ?_
          refine WL.val1 (R_move (v := .int .i64 ((((i : Nat) : Int) + 1))) rfl) ?_
          refine WL.nil ?_
          refine then_normal ?_
          exact ⟨(i + 1, (f), (k)), ⟨rfl, rfl, rfl, rfl, (by first | rfl | (apply congrArg (Value.int .i64); omega) | simp), trivial⟩, ⟨h3, hl4, hS17.pop, (by (try dsimp only); first | assumption | omega | simp), (by (try dsimp only); rw [← f2]; first | exact (doSome_yes (by assumption) (hz_keep_i.trans (congrArg some c1)) f).symm | exact (doSome_no (by assumption) (hz_keep_i.trans (congrArg some (bool_no c1))) f).symm | rw [doSome_out (by omega), doSome_out (by omega)])⟩, (by first | (simp only []; omega) | (simp; omega))⟩
      · skip
        refine WC.region ?_
        refine WL.val1 (R_move (v := .int .i64 (((i : Nat) : Int))) rfl) ?_
        refine WL.val1 (R_move (v := .slice (keep_a) (keep).length (keep_c)) rfl) ?_
        refine WL.val1 (R_len_slice (n := (keep).length) rfl Tryz.underlying39) ?_
        refine WL.val1 (R_cast (R_lss (a := ((i : Nat) : Int)) (b := (((keep).length : Nat) : Int)) rfl rfl) (bool_false (by exact decide_eq_false (by omega)))) ?_
        refine WL.val1 (R_move (v := .bool (false)) rfl) ?_
        refine WL.skip (.inl (yl_eq (d := 20) rfl rfl)) ?_
        refine WL.skip (.inl (yl_eq (d := 20) rfl rfl)) ?_
        refine WL.skip (.inl (yl_eq (d := 20) rfl rfl)) ?_
        refine WL.skip (.inl (yl_eq (d := 20) rfl rfl)) ?_
        refine WL.val1 (R_pick (cb := false) (v := .bool (false)) rfl (fun h => by cases h) (fun _ => rfl)) ?_
        refine WL.nil ?_
        refine then_normal ?_
        refine WC.condF rfl ?_
        refine WC.skip ?_
        refine block_normal ?_
        refine then_normal ?_
        refine WC.region ?_
        refine WL.val1 (R_add_i (a := ((i : Nat) : Int)) (b := 1) rfl rfl (by omega)) ?_
        refine WL.val1 (R_move (v := .int .i64 ((((i : Nat) : Int) + 1))) rfl) ?_
        refine WL.nil ?_
        refine then_normal ?_
        exact ⟨(i + 1, (f), (k)), ⟨rfl, rfl, rfl, rfl, (by first | rfl | (apply congrArg (Value.int .i64); omega) | simp), trivial⟩, ⟨h3, hl4, hS17.pop, (by (try dsimp only); first | assumption | omega | simp), (by (try dsimp only); rw [← f2]; first | exact (doSome_yes (by assumption) (hz_keep_i.trans (congrArg some c1)) f).symm | exact (doSome_no (by assumption) (hz_keep_i.trans (congrArg some (bool_no c1))) f).symm | rw [doSome_out (by omega), doSome_out (by omega)])⟩, (by first | (simp only []; omega) | (simp; omega))⟩
    · skip
      refine WC.exit ?_
      refine then_exit ?_
      refine then_exit ?_
      refine block_exit ?_
      refine then_normal ?_
      refine WC.region ?_
      refine WL.val1 (R_move (v := .pointer (some ⟨D_b, 0, none⟩)) rfl) ?_
      refine WL.val1 (R_move (v := .pointer (some ⟨D_b, 0, none⟩)) rfl) ?_
      refine WL.val1 (R_build (vs := []) (v := .agg #[.bool (false), .int .i64 (0)]) rfl (fun _ => by kernel_rfl)) ?_
      refine WL.val1 (R_nilCheck rfl) ?_
      refine WL.val1 (R_fieldAddr (b := D_b) (off := 0) (m := 4) rfl (fun _ => by kernel_rfl)) ?_
      refine S_store (i := 0) (b := D_b) (l := [.bool (D.is), .int .i64 (D.left), .int .i64 (D.n), .map (some (D_held_b)), .slice (D_pend_a) (D.pend).length (D_pend_c)]) (l' := [.bool (D.is), .int .i64 (D.left), .int .i64 (D.n), .map (some (D_held_b)), .slice none 0 0]) (vs := [.slice none 0 0]) (v := .slice none 0 0) hS1 rfl rfl rfl Tryz.sizeOf76 rfl rfl rfl (Nat.le_of_ble_eq_true rfl) rfl rfl ?_
      intro w34 hS33
      refine WL.val1 (R_nilCheck rfl) ?_
      refine WL.val1 (R_fieldAddr (b := D_b) (off := 0) (m := 0) rfl (fun _ => by kernel_rfl)) ?_
      refine S_store (i := 0) (b := D_b) (l := [.bool (D.is), .int .i64 (D.left), .int .i64 (D.n), .map (some (D_held_b)), .slice none 0 0]) (l' := [.bool (false), .int .i64 (0), .int .i64 (D.n), .map (some (D_held_b)), .slice none 0 0]) (vs := [.bool (false), .int .i64 (0)]) (v := .agg #[.bool (false), .int .i64 (0)]) hS33 rfl rfl rfl Tryz.sizeOf74 rfl rfl rfl (Nat.le_of_ble_eq_true rfl) rfl rfl ?_
      intro w36 hS35
      refine WL.nil ?_
      refine top_normal (.tuple #[]) (gives0 rfl) ?_
      have e_ : crashD D keep = ⟨false, 0, D.n, f, []⟩ := by unfold crashD; rw [← f2, doSome_end (by omega)]
      have hS37 := hS35.growNil 80 RWr h3
      have hS38 : St Γ h3 (row (D_b) [.bool (false), .int .i64 (0), .int .i64 (D.n), .map (some (D_held_b)), .slice (none) 0 (0)] 78 :: mpG Mwr (D_held_b) (f) (k) :: grow 80 RWr h3 (([] : List Wr)) (none) (0) :: L) w36 := ((((hS37.move (i := 0) rfl).move (i := 2) rfl).move (i := 2) rfl).remove 3)
      exact ⟨[row (D_b) [.bool (false), .int .i64 (0), .int .i64 (D.n), .map (some (D_held_b)), .slice (none) 0 (0)] 78, mpG Mwr (D_held_b) (f) (k), grow 80 RWr h (([] : List Wr)) (none) (0)], ⟨k, none, 0, (by first | rfl | (rw [e_]; done) | (rw [e_]; rfl) | (simp; done)), (by first | rfl | (rw [e_]; done) | (rw [e_]; rfl))⟩, ((hS38.growFree (i := 2) h RWr_free rfl).weaken_h hl4)⟩
set_option maxHeartbeats 400000 in
theorem disk_New (n : Int) (hn : 1 ≤ n ∧ n ≤ 4096) : MutH GG Tryz.prog 22 (fun _ => True) [.int .i64 (n)] (fun h => []) (fun h A v => ∃ (D1_b : Nat) (D1_held_b : Nat) (D1_held_k : Nat) (D1_pend_a : Option Addr) (D1_pend_c : Nat), v = .tuple #[.pointer (some ⟨D1_b, 0, none⟩), .int .i64 (0)] ∧ A = [row (D1_b) [.bool ((newD n).is), .int .i64 ((newD n).left), .int .i64 ((newD n).n), .map (some (D1_held_b)), .slice (D1_pend_a) ((newD n).pend).length (D1_pend_c)] 78, mpG Mwr (D1_held_b) ((newD n).held) (D1_held_k), grow 80 RWr h ((newD n).pend) (D1_pend_a) (D1_pend_c)]) := by
  intro Γ h L w hpre hS
  refine Ret.body Tryz.func22 rfl Tryz.ntmps22 (Nat.le_of_ble_eq_true rfl) ?_
  have hS : St Γ h (L) w := hS
  refine WC.seq ?_
  refine WC.region ?_
  refine WL.val1 (R_assign (v := .pointer none) rfl) ?_
  refine WL.val1 (R_assign (v := .int .i64 (0)) rfl) ?_
  refine WL.nil ?_
  refine then_normal ?_
  refine WC.seq ?_
  refine WC.seq ?_
  refine WC.region ?_
  refine WL.val1 (R_move (v := .int .i64 (n)) rfl) ?_
  refine WL.val1 (R_lss (a := n) (b := 1) rfl rfl) ?_
  refine WL.val1 (R_move (v := .bool (decide (n < 1))) rfl) ?_
  refine WL.gpure (gd := (!(decide (n < 1)))) (yl_f (d := 6) rfl rfl) (fun hg => R_move (v := .int .i64 (n)) rfl) ?_
  refine WL.gpure (gd := (!(decide (n < 1)))) (yl_f (d := 6) rfl rfl) (fun hg => R_gtr (a := n) (b := 4096) (gvT hg rfl) rfl) ?_
  refine WL.val1 (R_or (cb := decide (n < 1)) (yb := decide (4096 < n)) rfl rfl rfl) ?_
  refine WL.nil ?_
  refine then_normal ?_
  refine WC.condI ((n < 1 ∨ 4096 < n)) (b := (decide (n < 1) || decide (4096 < n))) rfl (b_or b_dec b_dec) (fun c0 => ?_) (fun c0 => ?_)
  · skip
    omega
  · skip
    refine WC.skip ?_
    refine then_normal ?_
    refine WC.seq ?_
    refine WC.region ?_
    refine WL.val1 (R_move (v := .int .i64 (n)) rfl) ?_
    refine S_makeMapG Mwr hS ?_
    intro w2 hS1
    refine WL.val1 (R_build (vs := [(1, .int .i64 (n)), (2, .map (some (w.heap.size)))]) (v := .agg #[.bool (false), .int .i64 (0), .int .i64 (n), .map (some (w.heap.size)), .slice none 0 0]) rfl (fun _ => by kernel_rfl)) ?_
    refine S_box (l := [.bool (false), .int .i64 (0), .int .i64 (n), .map (some (w.heap.size)), .slice none 0 0]) (v := .agg #[.bool (false), .int .i64 (0), .int .i64 (n), .map (some (w.heap.size)), .slice none 0 0]) hS1 rfl rfl ?_
    intro w4 hS3
    refine WL.val1 (R_assign (v := .pointer (some ⟨w2.heap.size, 0, none⟩)) rfl) ?_
    refine WL.val1 (R_assign (v := .int .i64 (0)) rfl) ?_
    refine WL.nil ?_
    refine then_normal ?_
    refine WC.ret ?_
    refine top_ret (.tuple #[.pointer (some ⟨w2.heap.size, 0, none⟩), .int .i64 (0)]) (gives2 rfl rfl rfl) ?_
    have hS5 := hS3.growNil 80 RWr h
    have hS6 : St Γ h (row (w2.heap.size) [.bool (false), .int .i64 (0), .int .i64 (n), .map (some (w.heap.size)), .slice (none) 0 (0)] 78 :: mpG Mwr (w.heap.size) (fun _ => none) (0) :: grow 80 RWr h (([] : List Wr)) (none) (0) :: L) w4 := (((hS5.move (i := 0) rfl).move (i := 2) rfl).move (i := 2) rfl)
    exact ⟨[row (w2.heap.size) [.bool (false), .int .i64 (0), .int .i64 (n), .map (some (w.heap.size)), .slice (none) 0 (0)] 78, mpG Mwr (w.heap.size) (fun _ => none) (0), grow 80 RWr h (([] : List Wr)) (none) (0)], ⟨w2.heap.size, w.heap.size, 0, none, 0, (by first | rfl | (simp; done)), (by first | rfl | (rw [e_]; done) | (rw [e_]; rfl))⟩, hS6⟩
set_option maxHeartbeats 400000 in
theorem lib_Clone (l : List File) (l_a : Option Addr) (l_c : Nat) (hl : l.length ≤ 1000000) : MutH GG Tryz.prog 33 (fun h => Sl RFile h l l_a l_c) [.slice (l_a) (l).length (l_c)] (fun h => []) (fun h A v => ∃ (r_a : Option Addr) (r_c : Nat), v = .slice (r_a) (l).length (r_c) ∧ A = [grow 29 RFile h (l) (r_a) (r_c)]) := by
  intro Γ h L w hpre hS
  have sl_l := hpre
  refine Ret.body Tryz.func33 rfl Tryz.ntmps33 (Nat.le_of_ble_eq_true rfl) ?_
  have hS : St Γ h (L) w := hS
  refine WC.seq ?_
  refine WC.region ?_
  refine WL.val1 (R_assign (v := .slice none 0 0) rfl) ?_
  refine WL.nil ?_
  refine then_normal ?_
  refine WC.seq ?_
  refine WC.seq ?_
  refine WC.region ?_
  refine WL.val1 (R_move (v := .slice (l_a) (l).length (l_c)) rfl) ?_
  refine WL.val1 (R_slEqlNil (a := l_a) rfl rfl Tryz.underlying30) ?_
  refine WL.nil ?_
  refine then_normal ?_
  refine WC.condI ((((l_a).isNone)) = true) (b := ((l_a).isNone)) rfl Iff.rfl (fun c0 => ?_) (fun c0 => ?_)
  · skip
    refine WC.seq ?_
    refine WC.region ?_
    refine WL.val1 (R_assign (v := .slice none 0 0) rfl) ?_
    refine WL.nil ?_
    refine then_normal ?_
    refine WC.ret ?_
    refine then_ret ?_
    refine top_ret (.slice none 0 0) (gives1 rfl rfl) ?_
    have e_ : l = [] := by
      cases l_a with
      | none => exact sl_l.none_nil
      | some _ => simp at c0
    subst e_
    have hS1 := hS.growNil 29 RFile h
    exact ⟨[grow 29 RFile h (([] : List File)) (none) (0)], ⟨none, 0, (by first | rfl | (rw [e_]; done) | (rw [e_]; rfl) | (simp; done)), (by first | rfl | (rw [e_]; done) | (rw [e_]; rfl))⟩, hS1⟩
  · skip
    refine WC.skip ?_
    refine then_normal ?_
    refine WC.seq ?_
    refine WC.region ?_
    refine S_buildSlice0 (R := RFile) (e := 29) hS Tryz.underlying30 (Tryz.sizeOf29) ?_
    intro w3 hS2
    refine WL.val1 (R_move (v := .slice (l_a) (l).length (l_c)) rfl) ?_
    refine S_append (info := Tryz.t29) (R := RFile) (xs := ([] : List File)) (ys := l) (a := some ⟨w.heap.size, 0, none⟩) (c := 0) 0 Tryz.underlying30 (by kernel_rfl) rfl rfl rfl (by decide) 32 rfl hS2 rfl (Hp.le_refl _) sl_l rfl rfl (by (try simp only [List.length_append, List.length_cons, List.length_nil]); omega) (by (try simp only [List.length_append, List.length_cons, List.length_nil]); omega) ?_
    intro a4 c5 w6 hS7
    refine WL.val1 (R_assign (v := .slice (a4) ((([] : List File) ++ l)).length (c5)) rfl) ?_
    refine WL.nil ?_
    refine then_normal ?_
    refine WC.ret ?_
    refine top_ret (.slice (a4) ((([] : List File) ++ l)).length (c5)) (gives1 rfl rfl) ?_
    exact ⟨[grow 29 RFile h ((([] : List File) ++ l)) (a4) (c5)], ⟨a4, c5, (by first | rfl | (simp; done)), (by first | rfl | (rw [e_]; done) | (rw [e_]; rfl))⟩, hS7⟩
set_option maxHeartbeats 400000 in
theorem store_Load (S : Sto) (S_b : Nat) (S_files_a : Option Addr) (S_files_c : Nat) (D : Dsk) (D_b : Nat) (D_held_b D_held_k : Nat) (D_pend_a : Option Addr) (D_pend_c : Nat) (hl : S.files.length ≤ 1000000) : MutH GG Tryz.prog 15 (fun _ => True) [.pointer (some ⟨S_b, 0, none⟩)] (fun h => [row (S_b) [.pointer (some ⟨D_b, 0, none⟩), .int .i64 (S.g0), .int .i64 (S.z0), .int .i64 (S.g1), .int .i64 (S.z1), .slice (S_files_a) (S.files).length (S_files_c)] 60, grow 29 RFile h (S.files) (S_files_a) (S_files_c), row (D_b) [.bool (D.is), .int .i64 (D.left), .int .i64 (D.n), .map (some (D_held_b)), .slice (D_pend_a) (D.pend).length (D_pend_c)] 78, mpG Mwr (D_held_b) (D.held) (D_held_k), grow 80 RWr h (D.pend) (D_pend_a) (D_pend_c)]) (fun h A v => ∃ (r_a : Option Addr) (r_c : Nat), v = .slice (r_a) (S.files).length (r_c) ∧ A = [row (S_b) [.pointer (some ⟨D_b, 0, none⟩), .int .i64 (S.g0), .int .i64 (S.z0), .int .i64 (S.g1), .int .i64 (S.z1), .slice (S_files_a) (S.files).length (S_files_c)] 60, grow 29 RFile h (S.files) (S_files_a) (S_files_c), row (D_b) [.bool (D.is), .int .i64 (D.left), .int .i64 (D.n), .map (some (D_held_b)), .slice (D_pend_a) (D.pend).length (D_pend_c)] 78, mpG Mwr (D_held_b) (D.held) (D_held_k), grow 80 RWr h (D.pend) (D_pend_a) (D_pend_c), grow 29 RFile h (S.files) (r_a) (r_c)]) := by
  intro Γ h L w hpre hS
  refine Ret.body Tryz.func15 rfl Tryz.ntmps15 (Nat.le_of_ble_eq_true rfl) ?_
  have hS : St Γ h (row (S_b) [.pointer (some ⟨D_b, 0, none⟩), .int .i64 (S.g0), .int .i64 (S.z0), .int .i64 (S.g1), .int .i64 (S.z1), .slice (S_files_a) (S.files).length (S_files_c)] 60 :: grow 29 RFile h (S.files) (S_files_a) (S_files_c) :: row (D_b) [.bool (D.is), .int .i64 (D.left), .int .i64 (D.n), .map (some (D_held_b)), .slice (D_pend_a) (D.pend).length (D_pend_c)] 78 :: mpG Mwr (D_held_b) (D.held) (D_held_k) :: grow 80 RWr h (D.pend) (D_pend_a) (D_pend_c) :: L) w := hS
  refine WC.seq ?_
  refine WC.region ?_
  refine WL.val1 (R_assign (v := .slice none 0 0) rfl) ?_
  refine WL.nil ?_
  refine then_normal ?_
  refine WC.seq ?_
  refine WC.region ?_
  refine WL.val1 (R_move (v := .pointer (some ⟨S_b, 0, none⟩)) rfl) ?_
  refine WL.val1 (R_nilCheck rfl) ?_
  refine WL.val1 (R_fieldAddr (b := S_b) (off := 0) (m := 5) rfl (fun _ => by kernel_rfl)) ?_
  refine WL.val1 (R_load (v := .slice (S_files_a) (S.files).length (S_files_c)) rfl (hS.has (i := 0) rfl) (Tryz.isAgg30 _) rfl) ?_
  obtain ⟨h1, hl2, hs3, hS4, back5⟩ := hS.lendG (i := 1) rfl (Hp.le_refl _)
  have hS8 := hS4.growMono (i := 4) rfl hl2
  refine S_callH (vs := [.slice (S_files_a) (S.files).length (S_files_c)]) (A := fun hh_ => []) (L := row (S_b) [.pointer (some ⟨D_b, 0, none⟩), .int .i64 (S.g0), .int .i64 (S.z0), .int .i64 (S.g1), .int .i64 (S.z1), .slice (S_files_a) (S.files).length (S_files_c)] 60 :: emp :: row (D_b) [.bool (D.is), .int .i64 (D.left), .int .i64 (D.n), .map (some (D_held_b)), .slice (D_pend_a) (D.pend).length (D_pend_c)] 78 :: mpG Mwr (D_held_b) (D.held) (D_held_k) :: grow 80 RWr h1 (D.pend) (D_pend_a) (D_pend_c) :: L) hS8 Tryz.call33 rfl (lib_Clone (S.files) (S_files_a) (S_files_c) (by first | assumption | omega)) hs3 ?_
  intro A9 v10 w7 hp11 hS6
  obtain ⟨r_a12, r_c13, rfl, rfl⟩ := hp11
  have hS6 : St Γ h1 (grow 29 RFile h1 (S.files) (r_a12) (r_c13) :: row (S_b) [.pointer (some ⟨D_b, 0, none⟩), .int .i64 (S.g0), .int .i64 (S.z0), .int .i64 (S.g1), .int .i64 (S.z1), .slice (S_files_a) (S.files).length (S_files_c)] 60 :: emp :: row (D_b) [.bool (D.is), .int .i64 (D.left), .int .i64 (D.n), .map (some (D_held_b)), .slice (D_pend_a) (D.pend).length (D_pend_c)] 78 :: mpG Mwr (D_held_b) (D.held) (D_held_k) :: grow 80 RWr h1 (D.pend) (D_pend_a) (D_pend_c) :: L) w7 := hS6
  have hS14 := back5 _ 2 _ rfl hS6
  have hS15 : St Γ h (grow 29 RFile h (S.files) (r_a12) (r_c13) :: row (S_b) [.pointer (some ⟨D_b, 0, none⟩), .int .i64 (S.g0), .int .i64 (S.z0), .int .i64 (S.g1), .int .i64 (S.z1), .slice (S_files_a) (S.files).length (S_files_c)] 60 :: grow 29 RFile h (S.files) (S_files_a) (S_files_c) :: row (D_b) [.bool (D.is), .int .i64 (D.left), .int .i64 (D.n), .map (some (D_held_b)), .slice (D_pend_a) (D.pend).length (D_pend_c)] 78 :: mpG Mwr (D_held_b) (D.held) (D_held_k) :: grow 80 RWr h (D.pend) (D_pend_a) (D_pend_c) :: L) w7 := ((hS14.growFree (i := 0) h RFile_free rfl).growFree (i := 5) h RWr_free rfl)
  refine WL.val1 (R_assign (v := .slice (r_a12) (S.files).length (r_c13)) rfl) ?_
  refine WL.nil ?_
  refine then_normal ?_
  refine WC.ret ?_
  refine top_ret (.slice (r_a12) (S.files).length (r_c13)) (gives1 rfl rfl) ?_
  have hS16 : St Γ h (row (S_b) [.pointer (some ⟨D_b, 0, none⟩), .int .i64 (S.g0), .int .i64 (S.z0), .int .i64 (S.g1), .int .i64 (S.z1), .slice (S_files_a) (S.files).length (S_files_c)] 60 :: grow 29 RFile h (S.files) (S_files_a) (S_files_c) :: row (D_b) [.bool (D.is), .int .i64 (D.left), .int .i64 (D.n), .map (some (D_held_b)), .slice (D_pend_a) (D.pend).length (D_pend_c)] 78 :: mpG Mwr (D_held_b) (D.held) (D_held_k) :: grow 80 RWr h (D.pend) (D_pend_a) (D_pend_c) :: grow 29 RFile h (S.files) (r_a12) (r_c13) :: L) w7 := ((((((hS15.move (i := 0) rfl).move (i := 5) rfl).move (i := 5) rfl).move (i := 5) rfl).move (i := 5) rfl).move (i := 5) rfl)
  exact ⟨[row (S_b) [.pointer (some ⟨D_b, 0, none⟩), .int .i64 (S.g0), .int .i64 (S.z0), .int .i64 (S.g1), .int .i64 (S.z1), .slice (S_files_a) (S.files).length (S_files_c)] 60, grow 29 RFile h (S.files) (S_files_a) (S_files_c), row (D_b) [.bool (D.is), .int .i64 (D.left), .int .i64 (D.n), .map (some (D_held_b)), .slice (D_pend_a) (D.pend).length (D_pend_c)] 78, mpG Mwr (D_held_b) (D.held) (D_held_k), grow 80 RWr h (D.pend) (D_pend_a) (D_pend_c), grow 29 RFile h (S.files) (r_a12) (r_c13)], ⟨r_a12, r_c13, (by first | rfl | (simp; done)), (by first | rfl | (rw [e_]; done) | (rw [e_]; rfl))⟩, hS16⟩
set_option maxHeartbeats 400000 in
theorem law_Same (a : List File) (a_a : Option Addr) (a_c : Nat) (b : List File) (b_a : Option Addr) (b_c : Nat) (hl : a.length ≤ 1000000000) : PureC GG Tryz.prog 14 (fun h => Sl RFile h a a_a a_c ∧ Sl RFile h b b_a b_c) [.slice (a_a) (a).length (a_c), .slice (b_a) (b).length (b_c)] (.bool (decide (a = b))) := by
  intro Γ h L w hpre hS
  obtain ⟨sl_a, sl_b⟩ := hpre
  refine Ret.body Tryz.func14 rfl Tryz.ntmps14 (Nat.le_of_ble_eq_true rfl) ?_
  refine WC.seq ?_
  refine WC.region ?_
  refine WL.val1 (R_assign (v := .bool (false)) rfl) ?_
  refine WL.nil ?_
  refine then_normal ?_
  refine WC.seq ?_
  refine WC.seq ?_
  refine WC.region ?_
  refine WL.val1 (R_move (v := .slice (a_a) (a).length (a_c)) rfl) ?_
  refine WL.val1 (R_len_slice (n := (a).length) rfl Tryz.underlying30) ?_
  refine WL.val1 (R_move (v := .slice (b_a) (b).length (b_c)) rfl) ?_
  refine WL.val1 (R_len_slice (n := (b).length) rfl Tryz.underlying30) ?_
  refine WL.val1 (R_neq (a := (((a).length : Nat) : Int)) (b := (((b).length : Nat) : Int)) rfl rfl) ?_
  refine WL.nil ?_
  refine then_normal ?_
  refine WC.condP ((((a).length : Nat) : Int) ≠ (((b).length : Nat) : Int)) rfl (fun c0 => ?_) (fun c0 => ?_)
  · skip
    refine WC.seq ?_
    refine WC.region ?_
    refine WL.val1 (R_assign (v := .bool (false)) rfl) ?_
    refine WL.nil ?_
    refine then_normal ?_
    refine WC.ret ?_
    refine then_ret ?_
    refine top_ret (.bool (false)) (gives1 rfl rfl) ?_
    exact ⟨(by apply congrArg Value.bool; exact (decide_eq_false (fun h => by rw [h] at c0; exact c0 rfl)).symm), hS⟩
  · skip
    refine WC.skip ?_
    refine then_normal ?_
    refine WC.seq ?_
    refine WC.seq ?_
    refine WC.region ?_
    refine WL.val1 (R_assign (v := .int .i64 (0)) rfl) ?_
    refine WL.nil ?_
    refine then_normal ?_
    refine WC.block ?_
    refine WC.loopL (σ := Nat)
      (fun (q_ : Nat) => (fun (i : Nat) => [(0, .slice (a_a) (a).length (a_c)), (1, .slice (b_a) (b).length (b_c)), (5, .int .i64 (((i : Nat) : Int)))]) (q_))
      (fun (q_ : Nat) (w_ : World) => (fun (i : Nat) => ∃ h3 : Hp, h.le h3 ∧ St Γ h3 (L) w_ ∧ (i ≤ a.length) ∧ (a.take i = b.take i) ∧ (a.length = b.length)) (q_))
      (fun (q_ : Nat) => (fun (i : Nat) => a.length - i) (q_)) (0) ?_ ?_ ?_
    · exact ⟨rfl, rfl, (by first | rfl | (apply congrArg (Value.int .i64); omega) | simp), trivial⟩
    · exact ⟨h, Hp.le_refl _, hS, (by first | assumption | omega | simp), (by simp), (by omega)⟩
    · rintro i r5 w2 ⟨h3, hl4, hS1, f1, f2, f3⟩
      try dsimp only at f1 f2 f3
      refine WC.seq ?_
      refine WC.seq ?_
      refine WC.region ?_
      refine WL.val1 (R_move (v := .int .i64 (((i : Nat) : Int))) rfl) ?_
      refine WL.val1 (R_move (v := .slice (a_a) (a).length (a_c)) rfl) ?_
      refine WL.val1 (R_len_slice (n := (a).length) rfl Tryz.underlying30) ?_
      refine WL.val1 (R_lss (a := ((i : Nat) : Int)) (b := (((a).length : Nat) : Int)) rfl rfl) ?_
      refine WL.nil ?_
      refine then_normal ?_
      refine WC.condP (((i : Nat) : Int) < (((a).length : Nat) : Int)) rfl (fun c1 => ?_) (fun c1 => ?_)
      · skip
        refine WC.skip ?_
        refine then_normal ?_
        refine WC.seq ?_
        refine WC.block ?_
        refine WC.seq ?_
        obtain ⟨z_a_i, hz_a_i⟩ : ∃ z, (a)[i]? = some z := ⟨_, List.getElem?_eq_getElem (by omega)⟩
        obtain ⟨b18, o19, cs23, ha20, hr21, hat22⟩ := (sl_a.mono hl4).2 i z_a_i hz_a_i
        subst hr21
        obtain ⟨z_b_i, hz_b_i⟩ : ∃ z, (b)[i]? = some z := ⟨_, List.getElem?_eq_getElem (by omega)⟩
        obtain ⟨b40, o41, cs45, ha42, hr43, hat44⟩ := (sl_b.mono hl4).2 i z_b_i hz_b_i
        subst hr43
        refine WC.draw 8 [(0, .slice (a_a) (a).length (a_c)), (1, .slice (b_a) (b).length (b_c)), (5, .int .i64 (((i : Nat) : Int)))] [fun _ v => v = .slice (a_a) (a).length (a_c), fun _ v => v = .int .i64 (((i : Nat) : Int)), fun _ v => v = .pointer (some ⟨b18, (o19 + i * RFile.n), none⟩), fun _ v => v = .agg #[.string (B (z_a_i.name)), .string (B (z_a_i.text))], fun _ v => v = .slice (b_a) (b).length (b_c), fun _ v => v = .int .i64 (((i : Nat) : Int)), fun _ v => v = .pointer (some ⟨b40, (o41 + i * RFile.n), none⟩), fun _ v => v = .agg #[.string (B (z_b_i.name)), .string (B (z_b_i.text))]] hS1 (by kernel_rfl) (by kernel_rfl) (MonoFs.pure (MonoFs.pure (MonoFs.pure (MonoFs.pure (MonoFs.pure (MonoFs.pure (MonoFs.pure (MonoFs.pure MonoFs.nil)))))))) ⟨rfl, rfl, rfl, trivial⟩ ⟨?_, ?_, ?_, ?_, ?_, ?_, ?_, ?_, trivial⟩ ?_
        · intro r_ w51 h52 hl53 hS50 hb_ hp_
          obtain ⟨b0_, b1_, b2_, _⟩ := hb_
          refine WL.val1 (R_move (v := .slice (a_a) (a).length (a_c)) b0_) ?_
          refine WL.nil ?_
          exact ⟨rfl, _, _, rfl, (Hp.le_refl _), rfl, hS50⟩
        · intro r_ w55 h56 hl57 hS54 hb_ hp_
          obtain ⟨b0_, b1_, b2_, _⟩ := hb_
          refine WL.val1 (R_move (v := .int .i64 (((i : Nat) : Int))) b2_) ?_
          refine WL.nil ?_
          exact ⟨rfl, _, _, rfl, (Hp.le_refl _), rfl, hS54⟩
        · intro r_ w59 h60 hl61 hS58 hb_ hp_
          obtain ⟨b0_, b1_, b2_, _⟩ := hb_
          obtain ⟨p0_, p1_, _⟩ := hp_
          have p0_ : r_ 17 = .slice (a_a) (a).length (a_c) := p0_
          have p1_ : r_ 18 = .int .i64 (((i : Nat) : Int)) := p1_
          refine WL.val1 (R_indexAddrE (i := ((i : Nat) : Int)) (m := i) ha20 p0_ p1_ Tryz.underlying30 (Tryz.sizeOf29 _) (by first | rfl | (omega)) (by omega)) ?_
          refine WL.nil ?_
          exact ⟨rfl, _, _, rfl, (Hp.le_refl _), rfl, hS58⟩
        · intro r_ w63 h64 hl65 hS62 hb_ hp_
          obtain ⟨b0_, b1_, b2_, _⟩ := hb_
          obtain ⟨p0_, _⟩ := hp_
          have p0_ : r_ 19 = .pointer (some ⟨b18, (o19 + i * RFile.n), none⟩) := p0_
          refine WL.val1 (R_loadCA (cs := [.string (B (z_a_i.name)), .string (B (z_a_i.text))]) hS62 p0_ (hat22.mono hl65) Tryz.isAgg29 Tryz.sizeOf29 rfl) ?_
          refine WL.nil ?_
          exact ⟨rfl, _, _, rfl, (Hp.le_refl _), rfl, hS62⟩
        · intro r_ w67 h68 hl69 hS66 hb_ hp_
          obtain ⟨b0_, b1_, b2_, _⟩ := hb_
          refine WL.val1 (R_move (v := .slice (b_a) (b).length (b_c)) b1_) ?_
          refine WL.nil ?_
          exact ⟨rfl, _, _, rfl, (Hp.le_refl _), rfl, hS66⟩
        · intro r_ w71 h72 hl73 hS70 hb_ hp_
          obtain ⟨b0_, b1_, b2_, _⟩ := hb_
          refine WL.val1 (R_move (v := .int .i64 (((i : Nat) : Int))) b2_) ?_
          refine WL.nil ?_
          exact ⟨rfl, _, _, rfl, (Hp.le_refl _), rfl, hS70⟩
        · intro r_ w75 h76 hl77 hS74 hb_ hp_
          obtain ⟨b0_, b1_, b2_, _⟩ := hb_
          obtain ⟨p0_, p1_, _⟩ := hp_
          have p0_ : r_ 21 = .slice (b_a) (b).length (b_c) := p0_
          have p1_ : r_ 22 = .int .i64 (((i : Nat) : Int)) := p1_
          refine WL.val1 (R_indexAddrE (i := ((i : Nat) : Int)) (m := i) ha42 p0_ p1_ Tryz.underlying30 (Tryz.sizeOf29 _) (by first | rfl | (omega)) (by omega)) ?_
          refine WL.nil ?_
          exact ⟨rfl, _, _, rfl, (Hp.le_refl _), rfl, hS74⟩
        · intro r_ w79 h80 hl81 hS78 hb_ hp_
          obtain ⟨b0_, b1_, b2_, _⟩ := hb_
          obtain ⟨p0_, _⟩ := hp_
          have p0_ : r_ 23 = .pointer (some ⟨b40, (o41 + i * RFile.n), none⟩) := p0_
          refine WL.val1 (R_loadCA (cs := [.string (B (z_b_i.name)), .string (B (z_b_i.text))]) hS78 p0_ (hat44.mono hl81) Tryz.isAgg29 Tryz.sizeOf29 rfl) ?_
          refine WL.nil ?_
          exact ⟨rfl, _, _, rfl, (Hp.le_refl _), rfl, hS78⟩
        · intro r_ w83 h84 hl85 hS82 hb_ hf_
          obtain ⟨b0_, b1_, b2_, _⟩ := hb_
          have q3_ := AF.get hf_ 3 (d := 20) rfl rfl
          have q7_ := AF.get hf_ 7 (d := 24) rfl rfl
          refine WL.frame [(0, .slice (a_a) (a).length (a_c)), (1, .slice (b_a) (b).length (b_c)), (5, .int .i64 (((i : Nat) : Int))), (20, .agg #[.string (B (z_a_i.name)), .string (B (z_a_i.text))]), (24, .agg #[.string (B (z_b_i.name)), .string (B (z_b_i.text))])] ⟨b0_, b1_, b2_, q3_, q7_, trivial⟩ (fun r_ => ?_)
          refine WL.val1 (R_aggNeq (c := (decide (z_a_i.name = z_b_i.name) && (decide (z_a_i.text = z_b_i.text) && true))) (xs := #[.string (B (z_a_i.name)), .string (B (z_a_i.text))]) (ys := #[.string (B (z_b_i.name)), .string (B (z_b_i.text))]) rfl rfl (by kernel_rfl) Tryz.underlying29 (by kernel_rfl) (eqFields_cons (by decide) Tryz.isAgg9 rfl rfl (eqIn_str Tryz.underlying9) (eqFields_cons (by decide) Tryz.isAgg9 rfl rfl (eqIn_str Tryz.underlying9) eqFields_nil))) ?_
          refine WL.nil ?_
          refine then_normal ?_
          refine WC.condI (¬ (((z_a_i.name = z_b_i.name) ∧ ((z_a_i.text = z_b_i.text) ∧ True)))) (b := (!((decide (z_a_i.name = z_b_i.name) && (decide (z_a_i.text = z_b_i.text) && true))))) rfl (b_not (b_and b_dec (b_and b_dec b_true))) (fun c2 => ?_) (fun c2 => ?_)
          · skip
            refine WC.seq ?_
            refine WC.region ?_
            refine WL.val1 (R_assign (v := .bool (false)) rfl) ?_
            refine WL.nil ?_
            refine then_normal ?_
            refine WC.ret ?_
            refine block_ret ?_
            refine then_ret ?_
            refine then_ret ?_
            refine block_ret ?_
            refine then_ret ?_
            refine top_ret (.bool (false)) (gives1 rfl rfl) ?_
            exact ⟨(by apply congrArg Value.bool; exact (decide_eq_false (fun h => by subst h; rw [hz_a_i] at hz_b_i; injection hz_b_i with hh; subst hh; simp at c2)).symm), (hS82.weaken_h (hl4.trans hl85))⟩
          · skip
            refine WC.skip ?_
            refine block_normal ?_
            refine then_normal ?_
            refine WC.region ?_
            refine WL.val1 (R_move (v := .int .i64 (((i : Nat) : Int))) rfl) ?_
            refine WL.val1 (R_add_i (a := ((i : Nat) : Int)) (b := 1) rfl rfl (by omega)) ?_
            refine WL.val1 (R_assign (v := .int .i64 ((((i : Nat) : Int) + 1))) rfl) ?_
            refine WL.nil ?_
            refine then_normal ?_
            exact ⟨(i + 1), ⟨rfl, rfl, (by first | rfl | (apply congrArg (Value.int .i64); omega) | simp), trivial⟩, ⟨h84, (hl4.trans hl85), hS82, (by (try dsimp only); first | assumption | omega | simp), (by (try dsimp only); rw [take_succ' hz_a_i, take_succ' hz_b_i, f2]; congr 1; exact congrArg (fun x => [x]) (file_ext (by simpa using c2))), (by (try dsimp only); first | assumption | omega | simp)⟩, (by first | (simp only []; omega) | (simp; omega))⟩
      · skip
        refine WC.exit ?_
        refine then_exit ?_
        refine then_exit ?_
        refine block_exit ?_
        refine then_normal ?_
        refine WC.seq ?_
        refine WC.region ?_
        refine WL.val1 (R_assign (v := .bool (true)) rfl) ?_
        refine WL.nil ?_
        refine then_normal ?_
        refine WC.ret ?_
        refine top_ret (.bool (true)) (gives1 rfl rfl) ?_
        exact ⟨(by apply congrArg Value.bool; exact (decide_eq_true (by have h2 := f2; rw [List.take_of_length_le (by omega), List.take_of_length_le (by omega)] at h2; exact h2)).symm), (hS1.weaken_h hl4)⟩
end Go.Stet
