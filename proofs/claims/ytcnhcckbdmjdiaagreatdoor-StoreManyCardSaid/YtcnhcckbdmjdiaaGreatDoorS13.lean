/- What the layers compute, in plain Lean, and laws about that. Each under the conditions that its own statement names. -/
import Derived.Test.YtcnhcckbdmjdiaaGreatDoorSeatS3
import Derived.Test.YtcnhcckbdmjdiaaGreatDoorBldS
import Derived.Test.YtcnhcckbdmjdiaaGreatDoorEng18
import Derived.Test.YtcnhcckbdmjdiaaGreatDoorSpecS1
import Derived.Test.YtcnhcckbdmjdiaaGreatDoorSpecS4
import Derived.Test.YtcnhcckbdmjdiaaGreatDoorS10
set_option linter.all false
set_option linter.unusedSimpArgs false
set_option linter.unusedVariables false
namespace Go.Stet
open Go Go.Eng Go.Proofs
set_option maxHeartbeats 1000000 in
theorem law_StoreMany (l : List ((List File))) (l_a : Option Addr) (l_c : Nat) (n : Int) (hbl : ∀ fs ∈ l, ∀ x ∈ fs, x.name.length ≤ 9223372036854775807) (hn : -9223372036854775808 ≤ n ∧ n ≤ 9223372036854775807) : PureC GG Tryz.prog 6 (fun h => Sl (Rsl RFile) h l l_a l_c) [.slice (l_a) (l).length (l_c), .int .i64 (n)] (.bool (true)) := by
  intro Γ h L w hpre hS
  have sl_l := hpre
  refine Ret.body Tryz.func6 rfl Tryz.ntmps6 (Nat.le_of_ble_eq_true rfl) ?_
  refine WC.seq ?_
  refine WC.region ?_
  refine WL.val1 (R_assign (v := .bool (false)) rfl) ?_
  refine WL.nil ?_
  refine then_normal ?_
  refine WC.seq ?_
  refine WC.region ?_
  refine S_callH (vs := [.int .i64 (40)]) (A := fun hh_ => []) (L := L) hS Tryz.call10 rfl (law_On (40) (by decide)) trivial ?_
  intro A3 v4 w2 hp5 hS1
  obtain ⟨S1_b6, S1_files_a7, S1_files_c8, D1_b9, D1_held_b10, D1_held_k11, D1_pend_a12, D1_pend_c13, rfl, rfl⟩ := hp5
  have hS1 : St Γ h (row (S1_b6) [.pointer (some ⟨D1_b9, 0, none⟩), .int .i64 (emptyS.g0), .int .i64 (emptyS.z0), .int .i64 (emptyS.g1), .int .i64 (emptyS.z1), .slice (S1_files_a7) (emptyS.files).length (S1_files_c8)] 60 :: grow 29 RFile h (emptyS.files) (S1_files_a7) (S1_files_c8) :: row (D1_b9) [.bool ((newD 40).is), .int .i64 ((newD 40).left), .int .i64 ((newD 40).n), .map (some (D1_held_b10)), .slice (D1_pend_a12) ((newD 40).pend).length (D1_pend_c13)] 78 :: mpG Mwr (D1_held_b10) ((newD 40).held) (D1_held_k11) :: grow 80 RWr h ((newD 40).pend) (D1_pend_a12) (D1_pend_c13) :: L) w2 := hS1
  refine WL.val1 (R_move (v := .tuple #[.pointer (some ⟨S1_b6, 0, none⟩), .pointer (some ⟨D1_b9, 0, none⟩)]) rfl) ?_
  refine WL.val1 (R_extract (vs := ([.pointer (some ⟨S1_b6, 0, none⟩), .pointer (some ⟨D1_b9, 0, none⟩)] : List Value).toArray) (v := .pointer (some ⟨S1_b6, 0, none⟩)) rfl rfl) ?_
  refine WL.val1 (R_extract (vs := ([.pointer (some ⟨S1_b6, 0, none⟩), .pointer (some ⟨D1_b9, 0, none⟩)] : List Value).toArray) (v := .pointer (some ⟨D1_b9, 0, none⟩)) rfl rfl) ?_
  refine WL.val1 (R_assign (v := .pointer (some ⟨S1_b6, 0, none⟩)) rfl) ?_
  refine WL.val1 (R_assign (v := .pointer (some ⟨D1_b9, 0, none⟩)) rfl) ?_
  refine WL.nil ?_
  refine then_normal ?_
  refine WC.seq ?_
  refine WC.seq ?_
  refine WC.region ?_
  refine WL.val1 (R_move (v := .pointer (some ⟨S1_b6, 0, none⟩)) rfl) ?_
  refine WL.val1 (R_ptrEql rfl rfl Tryz.underlying23) ?_
  refine WL.val1 (R_move (v := .bool (false)) rfl) ?_
  refine WL_unguard (yl_eq (d := 21) rfl rfl) ?_
  refine WL.val1 (R_move (v := .pointer (some ⟨D1_b9, 0, none⟩)) rfl) ?_
  refine WL_unguard (yl_eq (d := 21) rfl rfl) ?_
  refine WL.val1 (R_ptrEql rfl rfl Tryz.underlying24) ?_
  refine WL.val1 (R_pick (cb := false) (v := .bool (false)) rfl (fun h => by cases h) (fun _ => rfl)) ?_
  refine WL.nil ?_
  refine then_normal ?_
  refine WC.condF rfl ?_
  refine WC.skip ?_
  refine then_normal ?_
  refine WC.seq ?_
  refine WC.region ?_
  refine S_buildSlice0 (R := RFile) (e := 29) hS1 Tryz.underlying30 (Tryz.sizeOf29) ?_
  intro w15 hS14
  refine WL.val1 (R_assign (v := .slice (some ⟨w2.heap.size, 0, none⟩) 0 (0)) rfl) ?_
  refine WL.nil ?_
  refine then_normal ?_
  refine WC.seq ?_
  refine WC.seq ?_
  obtain ⟨h16, hl17, hs18, hS19⟩ := hS14.growCommit (i := 0) rfl (Hp.le_refl _)
  refine WC.region ?_
  refine WL.val1 (R_assign (v := .int .i64 (0)) rfl) ?_
  refine WL.nil ?_
  refine then_normal ?_
  refine WC.block ?_
  have hS20 := hS19.growMono (i := 2) rfl hl17
  have hS21 := hS20.growMono (i := 5) rfl hl17
  refine WC.loopL (σ := Nat × (List File) × (Option Addr) × Nat × Nat × Sto × (Option Addr) × Nat × Dsk × Nat × (Option Addr) × Nat)
    (fun (q_ : Nat × (List File) × (Option Addr) × Nat × Nat × Sto × (Option Addr) × Nat × Dsk × Nat × (Option Addr) × Nat) => (fun (i : Nat) (last : List File) (last_a : Option Addr) (last_c : Nat) (T_b : Nat) (T : Sto) (T_files_a : Option Addr) (T_files_c : Nat) (E : Dsk) (E_held_k : Nat) (E_pend_a : Option Addr) (E_pend_c : Nat) => [(0, .slice (l_a) (l).length (l_c)), (1, .int .i64 (n)), (5, .pointer (some ⟨T_b, 0, none⟩)), (6, .pointer (some ⟨D1_b9, 0, none⟩)), (7, .slice (last_a) (last).length (last_c)), (8, .int .i64 (((i : Nat) : Int)))]) (q_.1) (q_.2.1) (q_.2.2.1) (q_.2.2.2.1) (q_.2.2.2.2.1) (q_.2.2.2.2.2.1) (q_.2.2.2.2.2.2.1) (q_.2.2.2.2.2.2.2.1) (q_.2.2.2.2.2.2.2.2.1) (q_.2.2.2.2.2.2.2.2.2.1) (q_.2.2.2.2.2.2.2.2.2.2.1) (q_.2.2.2.2.2.2.2.2.2.2.2))
    (fun (q_ : Nat × (List File) × (Option Addr) × Nat × Nat × Sto × (Option Addr) × Nat × Dsk × Nat × (Option Addr) × Nat) (w_ : World) => (fun (i : Nat) (last : List File) (last_a : Option Addr) (last_c : Nat) (T_b : Nat) (T : Sto) (T_files_a : Option Addr) (T_files_c : Nat) (E : Dsk) (E_held_k : Nat) (E_pend_a : Option Addr) (E_pend_c : Nat) => ∃ h24 : Hp, h16.le h24 ∧ St Γ h24 (emp :: row (T_b) [.pointer (some ⟨D1_b9, 0, none⟩), .int .i64 (T.g0), .int .i64 (T.z0), .int .i64 (T.g1), .int .i64 (T.z1), .slice (T_files_a) (T.files).length (T_files_c)] 60 :: grow 29 RFile h24 (T.files) (T_files_a) (T_files_c) :: row (D1_b9) [.bool (E.is), .int .i64 (E.left), .int .i64 (E.n), .map (some (D1_held_b10)), .slice (E_pend_a) (E.pend).length (E_pend_c)] 78 :: mpG Mwr (D1_held_b10) (E.held) (E_held_k) :: grow 80 RWr h24 (E.pend) (E_pend_a) (E_pend_c) :: L) w_ ∧ (i ≤ 10) ∧ (InvX E T 40 i) ∧ (T.files = last) ∧ (Sl RFile h24 last last_a last_c)) (q_.1) (q_.2.1) (q_.2.2.1) (q_.2.2.2.1) (q_.2.2.2.2.1) (q_.2.2.2.2.2.1) (q_.2.2.2.2.2.2.1) (q_.2.2.2.2.2.2.2.1) (q_.2.2.2.2.2.2.2.2.1) (q_.2.2.2.2.2.2.2.2.2.1) (q_.2.2.2.2.2.2.2.2.2.2.1) (q_.2.2.2.2.2.2.2.2.2.2.2))
    (fun (q_ : Nat × (List File) × (Option Addr) × Nat × Nat × Sto × (Option Addr) × Nat × Dsk × Nat × (Option Addr) × Nat) => (fun (i : Nat) (last : List File) (last_a : Option Addr) (last_c : Nat) (T_b : Nat) (T : Sto) (T_files_a : Option Addr) (T_files_c : Nat) (E : Dsk) (E_held_k : Nat) (E_pend_a : Option Addr) (E_pend_c : Nat) => 10 - i) (q_.1) (q_.2.1) (q_.2.2.1) (q_.2.2.2.1) (q_.2.2.2.2.1) (q_.2.2.2.2.2.1) (q_.2.2.2.2.2.2.1) (q_.2.2.2.2.2.2.2.1) (q_.2.2.2.2.2.2.2.2.1) (q_.2.2.2.2.2.2.2.2.2.1) (q_.2.2.2.2.2.2.2.2.2.2.1) (q_.2.2.2.2.2.2.2.2.2.2.2)) (0, ([] : List File), some ⟨w2.heap.size, 0, none⟩, 0, (S1_b6), emptyS, S1_files_a7, S1_files_c8, newD 40, D1_held_k11, D1_pend_a12, D1_pend_c13) ?_ ?_ ?_
  · exact ⟨rfl, rfl, (by first | rfl | (apply congrArg (Value.int .i64); omega) | simp), rfl, (by first | rfl | (apply congrArg (Value.int .i64); omega) | simp), (by first | rfl | (apply congrArg (Value.int .i64); omega) | simp), trivial⟩
  · exact ⟨h16, Hp.le_refl _, hS21, (by first | assumption | omega | simp), (by exact InvX.new (by decide)), (by rfl), (by exact hs18)⟩
  · rintro ⟨i, last, last_a, last_c, T_b, T, T_files_a, T_files_c, E, E_held_k, E_pend_a, E_pend_c⟩ r26 w23 ⟨h24, hl25, hS22, f2, f3, f4, sl_last⟩
    try dsimp only at f2 f3 f4 sl_last
    refine WC.seq ?_
    refine WC.seq ?_
    refine WC.region ?_
    refine WL.val1 (R_move (v := .int .i64 (((i : Nat) : Int))) rfl) ?_
    refine WL.val1 (R_move (v := .slice (l_a) (l).length (l_c)) rfl) ?_
    refine WL.val1 (R_len_slice (n := (l).length) rfl Tryz.underlying45) ?_
    refine WL.val1 (R_lss (a := ((i : Nat) : Int)) (b := (((l).length : Nat) : Int)) rfl rfl) ?_
    refine WL.val1 (R_move (v := .bool (decide (((i : Nat) : Int) < (((l).length : Nat) : Int)))) rfl) ?_
    refine WL.gpure (gd := decide (((i : Nat) : Int) < (((l).length : Nat) : Int))) (yl_t (d := 30) rfl rfl) (fun hg => R_move (v := .int .i64 (((i : Nat) : Int))) rfl) ?_
    refine WL.gpure (gd := decide (((i : Nat) : Int) < (((l).length : Nat) : Int))) (yl_t (d := 30) rfl rfl) (fun hg => R_lss (a := ((i : Nat) : Int)) (b := 10) (gvT hg rfl) rfl) ?_
    refine WL.val1 (R_and (cb := decide (((i : Nat) : Int) < (((l).length : Nat) : Int))) (yb := decide (((i : Nat) : Int) < 10)) rfl rfl rfl) ?_
    refine WL.nil ?_
    refine then_normal ?_
    refine WC.condI ((((i : Nat) : Int) < (((l).length : Nat) : Int) ∧ ((i : Nat) : Int) < 10)) (b := (decide (((i : Nat) : Int) < (((l).length : Nat) : Int)) && decide (((i : Nat) : Int) < 10))) rfl (b_and b_dec b_dec) (fun c1 => ?_) (fun c1 => ?_)
    · skip
      refine WC.skip ?_
      refine then_normal ?_
      refine WC.seq ?_
      refine WC.block ?_
      refine WC.seq ?_
      refine WC.region ?_
      refine WL.val1 (R_move (v := .slice (l_a) (l).length (l_c)) rfl) ?_
      refine WL.val1 (R_move (v := .int .i64 (((i : Nat) : Int))) rfl) ?_
      obtain ⟨z_l_i, hz_l_i⟩ : ∃ z, (l)[i]? = some z := ⟨_, List.getElem?_eq_getElem (by omega)⟩
      obtain ⟨b27, o28, cs32, ha29, hr30, hat31⟩ := (sl_l.mono (hl17.trans hl25)).2 i z_l_i hz_l_i
      obtain ⟨a33, c34, rfl, hs35⟩ := hr30
      have hb_l_i := hbl z_l_i (List.mem_of_getElem? hz_l_i)
      refine WL.val1 (R_indexAddrE (i := ((i : Nat) : Int)) (m := i) ha29 rfl rfl Tryz.underlying45 (Tryz.sizeOf30 _) (by first | rfl | (omega)) (by omega)) ?_
      refine WL.val1 (R_loadC (v := .slice (a33) (z_l_i).length (c34)) hS22 rfl hat31 Tryz.isAgg30 rfl) ?_
      refine S_callH (vs := [.slice (a33) (z_l_i).length (c34), .int .i64 (6), .int .i64 (40)]) (A := fun hh_ => []) (L := emp :: row (T_b) [.pointer (some ⟨D1_b9, 0, none⟩), .int .i64 (T.g0), .int .i64 (T.z0), .int .i64 (T.g1), .int .i64 (T.z1), .slice (T_files_a) (T.files).length (T_files_c)] 60 :: grow 29 RFile h24 (T.files) (T_files_a) (T_files_c) :: row (D1_b9) [.bool (E.is), .int .i64 (E.left), .int .i64 (E.n), .map (some (D1_held_b10)), .slice (E_pend_a) (E.pend).length (E_pend_c)] 78 :: mpG Mwr (D1_held_b10) (E.held) (E_held_k) :: grow 80 RWr h24 (E.pend) (E_pend_a) (E_pend_c) :: L) hS22 Tryz.call16 rfl (ref02_Map (z_l_i) (a33) (c34) (6) (40) (by decide) (by decide) hb_l_i) hs35 ?_
      intro A38 v39 w37 hp40 hS36
      obtain ⟨r_a41, r_c42, rfl, rfl⟩ := hp40
      have hS36 : St Γ h24 (grow 29 RFile h24 ((mapS z_l_i 6 40)) (r_a41) (r_c42) :: emp :: row (T_b) [.pointer (some ⟨D1_b9, 0, none⟩), .int .i64 (T.g0), .int .i64 (T.z0), .int .i64 (T.g1), .int .i64 (T.z1), .slice (T_files_a) (T.files).length (T_files_c)] 60 :: grow 29 RFile h24 (T.files) (T_files_a) (T_files_c) :: row (D1_b9) [.bool (E.is), .int .i64 (E.left), .int .i64 (E.n), .map (some (D1_held_b10)), .slice (E_pend_a) (E.pend).length (E_pend_c)] 78 :: mpG Mwr (D1_held_b10) (E.held) (E_held_k) :: grow 80 RWr h24 (E.pend) (E_pend_a) (E_pend_c) :: L) w37 := hS36
      refine WL.val1 (R_assign (v := .slice (r_a41) ((mapS z_l_i 6 40)).length (r_c42)) rfl) ?_
      refine WL.nil ?_
      refine then_normal ?_
      refine WC.seq ?_
      refine WC.seq ?_
      obtain ⟨h43, hl44, hs45, hS46⟩ := hS36.growCommit (i := 0) rfl (Hp.le_refl _)
      obtain ⟨D1_, S1_, e1_, i1_, g1_⟩ := com_fit f3 (by omega) z_l_i
      refine WC.region ?_
      refine WL.val1 (R_move (v := .pointer (some ⟨T_b, 0, none⟩)) rfl) ?_
      refine WL.val1 (R_move (v := .slice (r_a41) ((mapS z_l_i 6 40)).length (r_c42)) rfl) ?_
      have hS49 := hS46.growMono (i := 3) rfl hl44
      have hS50 := hS49.growMono (i := 6) rfl hl44
      have hS51 : St Γ h43 (row (T_b) [.pointer (some ⟨D1_b9, 0, none⟩), .int .i64 (T.g0), .int .i64 (T.z0), .int .i64 (T.g1), .int .i64 (T.z1), .slice (T_files_a) (T.files).length (T_files_c)] 60 :: grow 29 RFile h43 (T.files) (T_files_a) (T_files_c) :: row (D1_b9) [.bool (E.is), .int .i64 (E.left), .int .i64 (E.n), .map (some (D1_held_b10)), .slice (E_pend_a) (E.pend).length (E_pend_c)] 78 :: mpG Mwr (D1_held_b10) (E.held) (E_held_k) :: grow 80 RWr h43 (E.pend) (E_pend_a) (E_pend_c) :: emp :: emp :: emp :: emp :: emp :: emp :: emp :: L) w37 := (((((hS50.front (i := 6) rfl).front (i := 6) rfl).front (i := 6) rfl).front (i := 6) rfl).front (i := 6) rfl)
      refine S_callH (vs := [.pointer (some ⟨T_b, 0, none⟩), .slice (r_a41) ((mapS z_l_i 6 40)).length (r_c42)]) (A := fun hh_ => [row (T_b) [.pointer (some ⟨D1_b9, 0, none⟩), .int .i64 (T.g0), .int .i64 (T.z0), .int .i64 (T.g1), .int .i64 (T.z1), .slice (T_files_a) (T.files).length (T_files_c)] 60, grow 29 RFile hh_ (T.files) (T_files_a) (T_files_c), row (D1_b9) [.bool (E.is), .int .i64 (E.left), .int .i64 (E.n), .map (some (D1_held_b10)), .slice (E_pend_a) (E.pend).length (E_pend_c)] 78, mpG Mwr (D1_held_b10) (E.held) (E_held_k), grow 80 RWr hh_ (E.pend) (E_pend_a) (E_pend_c)]) (L := emp :: emp :: emp :: emp :: emp :: emp :: emp :: L) hS51 Tryz.call12 rfl (by have k_ := (store_Commit (T) (T_b) (T_files_a) (T_files_c) (E) (D1_b9) (D1_held_b10) (E_held_k) (E_pend_a) (E_pend_c) ((mapS z_l_i 6 40)) (r_a41) (r_c42) (f3.nb (by decide)) f3.pb (map_sz z_l_i 6 40).1 (map_sz z_l_i 6 40).2 (f3.gb (by omega))); rw [e1_] at k_; exact k_) (by exact hs45) ?_
      intro A52 v53 w48 hp54 hS47
      obtain ⟨S_files_a155, S_files_c156, D_held_k157, D_pend_a158, D_pend_c159, rfl, rfl⟩ := hp54
      have hS47 : St Γ h43 (row (T_b) [.pointer (some ⟨D1_b9, 0, none⟩), .int .i64 (S1_.g0), .int .i64 (S1_.z0), .int .i64 (S1_.g1), .int .i64 (S1_.z1), .slice (S_files_a155) (S1_.files).length (S_files_c156)] 60 :: grow 29 RFile h43 (S1_.files) (S_files_a155) (S_files_c156) :: row (D1_b9) [.bool (D1_.is), .int .i64 (D1_.left), .int .i64 (D1_.n), .map (some (D1_held_b10)), .slice (D_pend_a158) (D1_.pend).length (D_pend_c159)] 78 :: mpG Mwr (D1_held_b10) (D1_.held) (D_held_k157) :: grow 80 RWr h43 (D1_.pend) (D_pend_a158) (D_pend_c159) :: emp :: emp :: emp :: emp :: emp :: emp :: emp :: L) w48 := hS47
      have hS60 : St Γ h43 (emp :: emp :: row (T_b) [.pointer (some ⟨D1_b9, 0, none⟩), .int .i64 (S1_.g0), .int .i64 (S1_.z0), .int .i64 (S1_.g1), .int .i64 (S1_.z1), .slice (S_files_a155) (S1_.files).length (S_files_c156)] 60 :: grow 29 RFile h43 (S1_.files) (S_files_a155) (S_files_c156) :: row (D1_b9) [.bool (D1_.is), .int .i64 (D1_.left), .int .i64 (D1_.n), .map (some (D1_held_b10)), .slice (D_pend_a158) (D1_.pend).length (D_pend_c159)] 78 :: mpG Mwr (D1_held_b10) (D1_.held) (D_held_k157) :: grow 80 RWr h43 (D1_.pend) (D_pend_a158) (D_pend_c159) :: L) w48 := (St.back2 (i := 6) (St.back2 (i := 6) (St.back2 (i := 6) (St.back2 (i := 6) (St.back2 (i := 6) hS47 rfl) rfl) rfl) rfl) rfl)
      refine WL.val1 (R_cast (R_neq (a := 0) (b := 0) rfl rfl) (bool_false (by decide))) ?_
      refine WL.val1 (R_move (v := .bool (false)) rfl) ?_
      refine WL_unguard (yl_eq (d := 45) rfl rfl) ?_
      refine WL.val1 (R_move (v := .pointer (some ⟨T_b, 0, none⟩)) rfl) ?_
      refine WL_unguard (yl_eq (d := 45) rfl rfl) ?_
      have hS63 : St Γ h43 (row (T_b) [.pointer (some ⟨D1_b9, 0, none⟩), .int .i64 (S1_.g0), .int .i64 (S1_.z0), .int .i64 (S1_.g1), .int .i64 (S1_.z1), .slice (S_files_a155) (S1_.files).length (S_files_c156)] 60 :: grow 29 RFile h43 (S1_.files) (S_files_a155) (S_files_c156) :: row (D1_b9) [.bool (D1_.is), .int .i64 (D1_.left), .int .i64 (D1_.n), .map (some (D1_held_b10)), .slice (D_pend_a158) (D1_.pend).length (D_pend_c159)] 78 :: mpG Mwr (D1_held_b10) (D1_.held) (D_held_k157) :: grow 80 RWr h43 (D1_.pend) (D_pend_a158) (D_pend_c159) :: emp :: emp :: emp :: emp :: emp :: emp :: emp :: L) w48 := (((((hS60.front (i := 6) rfl).front (i := 6) rfl).front (i := 6) rfl).front (i := 6) rfl).front (i := 6) rfl)
      refine S_callH (vs := [.pointer (some ⟨T_b, 0, none⟩)]) (A := fun hh_ => [row (T_b) [.pointer (some ⟨D1_b9, 0, none⟩), .int .i64 (S1_.g0), .int .i64 (S1_.z0), .int .i64 (S1_.g1), .int .i64 (S1_.z1), .slice (S_files_a155) (S1_.files).length (S_files_c156)] 60, grow 29 RFile hh_ (S1_.files) (S_files_a155) (S_files_c156), row (D1_b9) [.bool (D1_.is), .int .i64 (D1_.left), .int .i64 (D1_.n), .map (some (D1_held_b10)), .slice (D_pend_a158) (D1_.pend).length (D_pend_c159)] 78, mpG Mwr (D1_held_b10) (D1_.held) (D_held_k157), grow 80 RWr hh_ (D1_.pend) (D_pend_a158) (D_pend_c159)]) (L := emp :: emp :: emp :: emp :: emp :: emp :: emp :: L) hS63 Tryz.call15 rfl (store_Load (S1_) (T_b) (S_files_a155) (S_files_c156) (D1_) (D1_b9) (D1_held_b10) (D_held_k157) (D_pend_a158) (D_pend_c159) i1_.sz) trivial ?_
      intro A64 v65 w62 hp66 hS61
      obtain ⟨r_a67, r_c68, rfl, rfl⟩ := hp66
      have hS61 : St Γ h43 (row (T_b) [.pointer (some ⟨D1_b9, 0, none⟩), .int .i64 (S1_.g0), .int .i64 (S1_.z0), .int .i64 (S1_.g1), .int .i64 (S1_.z1), .slice (S_files_a155) (S1_.files).length (S_files_c156)] 60 :: grow 29 RFile h43 (S1_.files) (S_files_a155) (S_files_c156) :: row (D1_b9) [.bool (D1_.is), .int .i64 (D1_.left), .int .i64 (D1_.n), .map (some (D1_held_b10)), .slice (D_pend_a158) (D1_.pend).length (D_pend_c159)] 78 :: mpG Mwr (D1_held_b10) (D1_.held) (D_held_k157) :: grow 80 RWr h43 (D1_.pend) (D_pend_a158) (D_pend_c159) :: grow 29 RFile h43 (S1_.files) (r_a67) (r_c68) :: emp :: emp :: emp :: emp :: emp :: emp :: emp :: L) w62 := hS61
      have hS69 : St Γ h43 (grow 29 RFile h43 (S1_.files) (r_a67) (r_c68) :: emp :: emp :: row (T_b) [.pointer (some ⟨D1_b9, 0, none⟩), .int .i64 (S1_.g0), .int .i64 (S1_.z0), .int .i64 (S1_.g1), .int .i64 (S1_.z1), .slice (S_files_a155) (S1_.files).length (S_files_c156)] 60 :: grow 29 RFile h43 (S1_.files) (S_files_a155) (S_files_c156) :: row (D1_b9) [.bool (D1_.is), .int .i64 (D1_.left), .int .i64 (D1_.n), .map (some (D1_held_b10)), .slice (D_pend_a158) (D1_.pend).length (D_pend_c159)] 78 :: mpG Mwr (D1_held_b10) (D1_.held) (D_held_k157) :: grow 80 RWr h43 (D1_.pend) (D_pend_a158) (D_pend_c159) :: L) w62 := (St.back2 (i := 7) (St.back2 (i := 7) (St.back2 (i := 7) (St.back2 (i := 7) (St.back2 (i := 7) hS61 rfl) rfl) rfl) rfl) rfl)
      refine WL_unguard (yl_eq (d := 45) rfl rfl) ?_
      refine WL.val1 (R_move (v := .slice (r_a41) ((mapS z_l_i 6 40)).length (r_c42)) rfl) ?_
      refine WL_unguard (yl_eq (d := 45) rfl rfl) ?_
      obtain ⟨h70, hl71, hs72, hS73, back74⟩ := hS69.lendG (i := 0) rfl (Hp.le_refl _)
      refine S_callP (vs := [.slice (r_a67) (S1_.files).length (r_c68), .slice (r_a41) ((mapS z_l_i 6 40)).length (r_c42)]) hS73 Tryz.call14 rfl (law_Same (S1_.files) (r_a67) (r_c68) ((mapS z_l_i 6 40)) (r_a41) (r_c42) (by have := i1_.sz; omega)) ⟨hs72, (hs45.mono hl71)⟩ ?_
      intro w76 hS75
      have hS77 := back74 _ 0 _ rfl hS75
      have hS78 : St Γ h43 (grow 29 RFile h43 (S1_.files) (r_a67) (r_c68) :: emp :: emp :: row (T_b) [.pointer (some ⟨D1_b9, 0, none⟩), .int .i64 (S1_.g0), .int .i64 (S1_.z0), .int .i64 (S1_.g1), .int .i64 (S1_.z1), .slice (S_files_a155) (S1_.files).length (S_files_c156)] 60 :: grow 29 RFile h43 (S1_.files) (S_files_a155) (S_files_c156) :: row (D1_b9) [.bool (D1_.is), .int .i64 (D1_.left), .int .i64 (D1_.n), .map (some (D1_held_b10)), .slice (D_pend_a158) (D1_.pend).length (D_pend_c159)] 78 :: mpG Mwr (D1_held_b10) (D1_.held) (D_held_k157) :: grow 80 RWr h43 (D1_.pend) (D_pend_a158) (D_pend_c159) :: L) w76 := hS77
      refine WL_unguard (yl_eq (d := 45) rfl rfl) ?_
      refine WL.val1 (R_cast (R_not (b := decide (S1_.files = (mapS z_l_i 6 40))) rfl) (bool_false (by simp [g1_]))) ?_
      refine WL.val1 (R_pick (cb := false) (v := .bool (false)) rfl (fun h => by cases h) (fun _ => rfl)) ?_
      refine WL.nil ?_
      refine then_normal ?_
      refine WC.condF rfl ?_
      refine WC.skip ?_
      refine then_normal ?_
      refine WC.seq ?_
      refine WC.region ?_
      refine WL.val1 (R_move (v := .pointer (some ⟨D1_b9, 0, none⟩)) rfl) ?_
      have hS81 : St Γ h43 (row (D1_b9) [.bool (D1_.is), .int .i64 (D1_.left), .int .i64 (D1_.n), .map (some (D1_held_b10)), .slice (D_pend_a158) (D1_.pend).length (D_pend_c159)] 78 :: mpG Mwr (D1_held_b10) (D1_.held) (D_held_k157) :: grow 80 RWr h43 (D1_.pend) (D_pend_a158) (D_pend_c159) :: grow 29 RFile h43 (S1_.files) (r_a67) (r_c68) :: emp :: emp :: row (T_b) [.pointer (some ⟨D1_b9, 0, none⟩), .int .i64 (S1_.g0), .int .i64 (S1_.z0), .int .i64 (S1_.g1), .int .i64 (S1_.z1), .slice (S_files_a155) (S1_.files).length (S_files_c156)] 60 :: grow 29 RFile h43 (S1_.files) (S_files_a155) (S_files_c156) :: emp :: emp :: emp :: L) w76 := (((hS78.front (i := 7) rfl).front (i := 7) rfl).front (i := 7) rfl)
      refine S_callH (vs := [.pointer (some ⟨D1_b9, 0, none⟩)]) (A := fun hh_ => [row (D1_b9) [.bool (D1_.is), .int .i64 (D1_.left), .int .i64 (D1_.n), .map (some (D1_held_b10)), .slice (D_pend_a158) (D1_.pend).length (D_pend_c159)] 78, mpG Mwr (D1_held_b10) (D1_.held) (D_held_k157), grow 80 RWr hh_ (D1_.pend) (D_pend_a158) (D_pend_c159)]) (L := grow 29 RFile h43 (S1_.files) (r_a67) (r_c68) :: emp :: emp :: row (T_b) [.pointer (some ⟨D1_b9, 0, none⟩), .int .i64 (S1_.g0), .int .i64 (S1_.z0), .int .i64 (S1_.g1), .int .i64 (S1_.z1), .slice (S_files_a155) (S1_.files).length (S_files_c156)] 60 :: grow 29 RFile h43 (S1_.files) (S_files_a155) (S_files_c156) :: emp :: emp :: emp :: L) hS81 Tryz.call18 rfl (store_Open (D1_) (D1_b9) (D1_held_b10) (D_held_k157) (D_pend_a158) (D_pend_c159) (S1_) ((filesS S1_.files)) (i1_.nb (by decide)) i1_.pend i1_.opens) trivial ?_
      intro A82 v83 w80 hp84 hS79
      obtain ⟨S1_b85, S1_files_a86, S1_files_c87, rfl, rfl⟩ := hp84
      have hS79 : St Γ h43 (row (D1_b9) [.bool (D1_.is), .int .i64 (D1_.left), .int .i64 (D1_.n), .map (some (D1_held_b10)), .slice (D_pend_a158) (D1_.pend).length (D_pend_c159)] 78 :: mpG Mwr (D1_held_b10) (D1_.held) (D_held_k157) :: grow 80 RWr h43 (D1_.pend) (D_pend_a158) (D_pend_c159) :: row (S1_b85) [.pointer (some ⟨D1_b9, 0, none⟩), .int .i64 (S1_.g0), .int .i64 (S1_.z0), .int .i64 (S1_.g1), .int .i64 (S1_.z1), .slice (S1_files_a86) (S1_.files).length (S1_files_c87)] 60 :: grow 29 RFile h43 (S1_.files) (S1_files_a86) (S1_files_c87) :: grow 29 RFile h43 (S1_.files) (r_a67) (r_c68) :: emp :: emp :: row (T_b) [.pointer (some ⟨D1_b9, 0, none⟩), .int .i64 (S1_.g0), .int .i64 (S1_.z0), .int .i64 (S1_.g1), .int .i64 (S1_.z1), .slice (S_files_a155) (S1_.files).length (S_files_c156)] 60 :: grow 29 RFile h43 (S1_.files) (S_files_a155) (S_files_c156) :: emp :: emp :: emp :: L) w80 := hS79
      have hS88 : St Γ h43 (row (S1_b85) [.pointer (some ⟨D1_b9, 0, none⟩), .int .i64 (S1_.g0), .int .i64 (S1_.z0), .int .i64 (S1_.g1), .int .i64 (S1_.z1), .slice (S1_files_a86) (S1_.files).length (S1_files_c87)] 60 :: grow 29 RFile h43 (S1_.files) (S1_files_a86) (S1_files_c87) :: grow 29 RFile h43 (S1_.files) (r_a67) (r_c68) :: emp :: emp :: row (T_b) [.pointer (some ⟨D1_b9, 0, none⟩), .int .i64 (S1_.g0), .int .i64 (S1_.z0), .int .i64 (S1_.g1), .int .i64 (S1_.z1), .slice (S_files_a155) (S1_.files).length (S_files_c156)] 60 :: grow 29 RFile h43 (S1_.files) (S_files_a155) (S_files_c156) :: row (D1_b9) [.bool (D1_.is), .int .i64 (D1_.left), .int .i64 (D1_.n), .map (some (D1_held_b10)), .slice (D_pend_a158) (D1_.pend).length (D_pend_c159)] 78 :: mpG Mwr (D1_held_b10) (D1_.held) (D_held_k157) :: grow 80 RWr h43 (D1_.pend) (D_pend_a158) (D_pend_c159) :: L) w80 := (St.back2 (i := 9) (St.back2 (i := 9) (St.back2 (i := 9) hS79 rfl) rfl) rfl)
      refine WL.val1 (R_move (v := .tuple #[.pointer (some ⟨S1_b85, 0, none⟩), .int .i64 (0)]) rfl) ?_
      refine WL.val1 (R_extract (vs := ([.pointer (some ⟨S1_b85, 0, none⟩), .int .i64 (0)] : List Value).toArray) (v := .pointer (some ⟨S1_b85, 0, none⟩)) rfl rfl) ?_
      refine WL.val1 (R_extract (vs := ([.pointer (some ⟨S1_b85, 0, none⟩), .int .i64 (0)] : List Value).toArray) (v := .int .i64 (0)) rfl rfl) ?_
      refine WL.val1 (R_assign (v := .pointer (some ⟨S1_b85, 0, none⟩)) rfl) ?_
      refine WL.val1 (R_assign (v := .int .i64 (0)) rfl) ?_
      refine WL.nil ?_
      refine then_normal ?_
      refine WC.seq ?_
      refine WC.seq ?_
      refine WC.region ?_
      refine WL.val1 (R_move (v := .pointer (some ⟨S1_b85, 0, none⟩)) rfl) ?_
      refine WL.val1 (R_ptrEql rfl rfl Tryz.underlying23) ?_
      refine WL.val1 (R_move (v := .bool (false)) rfl) ?_
      refine WL_unguard (yl_eq (d := 59) rfl rfl) ?_
      refine WL.val1 (R_move (v := .int .i64 (0)) rfl) ?_
      refine WL_unguard (yl_eq (d := 59) rfl rfl) ?_
      refine WL.val1 (R_cast (R_neq (a := 0) (b := 0) rfl rfl) (bool_false (by decide))) ?_
      refine WL.val1 (R_pick (cb := false) (v := .bool (false)) rfl (fun h => by cases h) (fun _ => rfl)) ?_
      refine WL.val1 (R_move (v := .bool (false)) rfl) ?_
      refine WL_unguard (yl_eq (d := 63) rfl rfl) ?_
      refine WL.val1 (R_move (v := .pointer (some ⟨S1_b85, 0, none⟩)) rfl) ?_
      refine WL_unguard (yl_eq (d := 63) rfl rfl) ?_
      have hS91 : St Γ h43 (row (S1_b85) [.pointer (some ⟨D1_b9, 0, none⟩), .int .i64 (S1_.g0), .int .i64 (S1_.z0), .int .i64 (S1_.g1), .int .i64 (S1_.z1), .slice (S1_files_a86) (S1_.files).length (S1_files_c87)] 60 :: grow 29 RFile h43 (S1_.files) (S1_files_a86) (S1_files_c87) :: row (D1_b9) [.bool (D1_.is), .int .i64 (D1_.left), .int .i64 (D1_.n), .map (some (D1_held_b10)), .slice (D_pend_a158) (D1_.pend).length (D_pend_c159)] 78 :: mpG Mwr (D1_held_b10) (D1_.held) (D_held_k157) :: grow 80 RWr h43 (D1_.pend) (D_pend_a158) (D_pend_c159) :: emp :: emp :: grow 29 RFile h43 (S1_.files) (r_a67) (r_c68) :: emp :: emp :: row (T_b) [.pointer (some ⟨D1_b9, 0, none⟩), .int .i64 (S1_.g0), .int .i64 (S1_.z0), .int .i64 (S1_.g1), .int .i64 (S1_.z1), .slice (S_files_a155) (S1_.files).length (S_files_c156)] 60 :: grow 29 RFile h43 (S1_.files) (S_files_a155) (S_files_c156) :: emp :: emp :: emp :: L) w80 := (((((hS88.front (i := 9) rfl).front (i := 9) rfl).front (i := 9) rfl).front (i := 4) rfl).front (i := 4) rfl)
      refine S_callH (vs := [.pointer (some ⟨S1_b85, 0, none⟩)]) (A := fun hh_ => [row (S1_b85) [.pointer (some ⟨D1_b9, 0, none⟩), .int .i64 (S1_.g0), .int .i64 (S1_.z0), .int .i64 (S1_.g1), .int .i64 (S1_.z1), .slice (S1_files_a86) (S1_.files).length (S1_files_c87)] 60, grow 29 RFile hh_ (S1_.files) (S1_files_a86) (S1_files_c87), row (D1_b9) [.bool (D1_.is), .int .i64 (D1_.left), .int .i64 (D1_.n), .map (some (D1_held_b10)), .slice (D_pend_a158) (D1_.pend).length (D_pend_c159)] 78, mpG Mwr (D1_held_b10) (D1_.held) (D_held_k157), grow 80 RWr hh_ (D1_.pend) (D_pend_a158) (D_pend_c159)]) (L := emp :: emp :: grow 29 RFile h43 (S1_.files) (r_a67) (r_c68) :: emp :: emp :: row (T_b) [.pointer (some ⟨D1_b9, 0, none⟩), .int .i64 (S1_.g0), .int .i64 (S1_.z0), .int .i64 (S1_.g1), .int .i64 (S1_.z1), .slice (S_files_a155) (S1_.files).length (S_files_c156)] 60 :: grow 29 RFile h43 (S1_.files) (S_files_a155) (S_files_c156) :: emp :: emp :: emp :: L) hS91 Tryz.call15 rfl (store_Load (S1_) (S1_b85) (S1_files_a86) (S1_files_c87) (D1_) (D1_b9) (D1_held_b10) (D_held_k157) (D_pend_a158) (D_pend_c159) i1_.sz) trivial ?_
      intro A92 v93 w90 hp94 hS89
      obtain ⟨r_a95, r_c96, rfl, rfl⟩ := hp94
      have hS89 : St Γ h43 (row (S1_b85) [.pointer (some ⟨D1_b9, 0, none⟩), .int .i64 (S1_.g0), .int .i64 (S1_.z0), .int .i64 (S1_.g1), .int .i64 (S1_.z1), .slice (S1_files_a86) (S1_.files).length (S1_files_c87)] 60 :: grow 29 RFile h43 (S1_.files) (S1_files_a86) (S1_files_c87) :: row (D1_b9) [.bool (D1_.is), .int .i64 (D1_.left), .int .i64 (D1_.n), .map (some (D1_held_b10)), .slice (D_pend_a158) (D1_.pend).length (D_pend_c159)] 78 :: mpG Mwr (D1_held_b10) (D1_.held) (D_held_k157) :: grow 80 RWr h43 (D1_.pend) (D_pend_a158) (D_pend_c159) :: grow 29 RFile h43 (S1_.files) (r_a95) (r_c96) :: emp :: emp :: grow 29 RFile h43 (S1_.files) (r_a67) (r_c68) :: emp :: emp :: row (T_b) [.pointer (some ⟨D1_b9, 0, none⟩), .int .i64 (S1_.g0), .int .i64 (S1_.z0), .int .i64 (S1_.g1), .int .i64 (S1_.z1), .slice (S_files_a155) (S1_.files).length (S_files_c156)] 60 :: grow 29 RFile h43 (S1_.files) (S_files_a155) (S_files_c156) :: emp :: emp :: emp :: L) w90 := hS89
      have hS97 : St Γ h43 (grow 29 RFile h43 (S1_.files) (r_a95) (r_c96) :: row (S1_b85) [.pointer (some ⟨D1_b9, 0, none⟩), .int .i64 (S1_.g0), .int .i64 (S1_.z0), .int .i64 (S1_.g1), .int .i64 (S1_.z1), .slice (S1_files_a86) (S1_.files).length (S1_files_c87)] 60 :: grow 29 RFile h43 (S1_.files) (S1_files_a86) (S1_files_c87) :: grow 29 RFile h43 (S1_.files) (r_a67) (r_c68) :: emp :: emp :: row (T_b) [.pointer (some ⟨D1_b9, 0, none⟩), .int .i64 (S1_.g0), .int .i64 (S1_.z0), .int .i64 (S1_.g1), .int .i64 (S1_.z1), .slice (S_files_a155) (S1_.files).length (S_files_c156)] 60 :: grow 29 RFile h43 (S1_.files) (S_files_a155) (S_files_c156) :: row (D1_b9) [.bool (D1_.is), .int .i64 (D1_.left), .int .i64 (D1_.n), .map (some (D1_held_b10)), .slice (D_pend_a158) (D1_.pend).length (D_pend_c159)] 78 :: mpG Mwr (D1_held_b10) (D1_.held) (D_held_k157) :: grow 80 RWr h43 (D1_.pend) (D_pend_a158) (D_pend_c159) :: L) w90 := (St.back2 (i := 10) (St.back2 (i := 10) (St.back2 (i := 10) (St.back2 (i := 5) (St.back2 (i := 5) hS89 rfl) rfl) rfl) rfl) rfl)
      refine WL_unguard (yl_eq (d := 63) rfl rfl) ?_
      refine WL.val1 (R_move (v := .slice (r_a41) ((mapS z_l_i 6 40)).length (r_c42)) rfl) ?_
      refine WL_unguard (yl_eq (d := 63) rfl rfl) ?_
      obtain ⟨h98, hl99, hs100, hS101, back102⟩ := hS97.lendG (i := 0) rfl (Hp.le_refl _)
      refine S_callP (vs := [.slice (r_a95) (S1_.files).length (r_c96), .slice (r_a41) ((mapS z_l_i 6 40)).length (r_c42)]) hS101 Tryz.call14 rfl (law_Same (S1_.files) (r_a95) (r_c96) ((mapS z_l_i 6 40)) (r_a41) (r_c42) (by have := i1_.sz; omega)) ⟨hs100, (hs45.mono hl99)⟩ ?_
      intro w104 hS103
      have hS105 := back102 _ 0 _ rfl hS103
      have hS106 : St Γ h43 (grow 29 RFile h43 (S1_.files) (r_a95) (r_c96) :: row (S1_b85) [.pointer (some ⟨D1_b9, 0, none⟩), .int .i64 (S1_.g0), .int .i64 (S1_.z0), .int .i64 (S1_.g1), .int .i64 (S1_.z1), .slice (S1_files_a86) (S1_.files).length (S1_files_c87)] 60 :: grow 29 RFile h43 (S1_.files) (S1_files_a86) (S1_files_c87) :: grow 29 RFile h43 (S1_.files) (r_a67) (r_c68) :: emp :: emp :: row (T_b) [.pointer (some ⟨D1_b9, 0, none⟩), .int .i64 (S1_.g0), .int .i64 (S1_.z0), .int .i64 (S1_.g1), .int .i64 (S1_.z1), .slice (S_files_a155) (S1_.files).length (S_files_c156)] 60 :: grow 29 RFile h43 (S1_.files) (S_files_a155) (S_files_c156) :: row (D1_b9) [.bool (D1_.is), .int .i64 (D1_.left), .int .i64 (D1_.n), .map (some (D1_held_b10)), .slice (D_pend_a158) (D1_.pend).length (D_pend_c159)] 78 :: mpG Mwr (D1_held_b10) (D1_.held) (D_held_k157) :: grow 80 RWr h43 (D1_.pend) (D_pend_a158) (D_pend_c159) :: L) w104 := hS105
      refine WL_unguard (yl_eq (d := 63) rfl rfl) ?_
      refine WL.val1 (R_cast (R_not (b := decide (S1_.files = (mapS z_l_i 6 40))) rfl) (bool_false (by simp [g1_]))) ?_
      refine WL.val1 (R_pick (cb := false) (v := .bool (false)) rfl (fun h => by cases h) (fun _ => rfl)) ?_
      refine WL.nil ?_
      refine then_normal ?_
      refine WC.condF rfl ?_
      refine WC.skip ?_
      refine then_normal ?_
      refine WC.seq ?_
      refine WC.region ?_
      refine WL.val1 (R_move (v := .pointer (some ⟨S1_b85, 0, none⟩)) rfl) ?_
      refine WL.val1 (R_assign (v := .pointer (some ⟨S1_b85, 0, none⟩)) rfl) ?_
      refine WL.nil ?_
      refine then_normal ?_
      refine WC.region ?_
      refine WL.val1 (R_move (v := .slice (r_a41) ((mapS z_l_i 6 40)).length (r_c42)) rfl) ?_
      refine WL.val1 (R_assign (v := .slice (r_a41) ((mapS z_l_i 6 40)).length (r_c42)) rfl) ?_
      refine WL.nil ?_
      refine block_normal ?_
      refine then_normal ?_
      refine WC.region ?_
      refine WL.val1 (R_move (v := .int .i64 (((i : Nat) : Int))) rfl) ?_
      refine WL.val1 (R_add_i (a := ((i : Nat) : Int)) (b := 1) rfl rfl (by omega)) ?_
      refine WL.val1 (R_assign (v := .int .i64 ((((i : Nat) : Int) + 1))) rfl) ?_
      refine WL.nil ?_
      refine then_normal ?_
      have hS107 : St Γ h43 (emp :: row (S1_b85) [.pointer (some ⟨D1_b9, 0, none⟩), .int .i64 (S1_.g0), .int .i64 (S1_.z0), .int .i64 (S1_.g1), .int .i64 (S1_.z1), .slice (S1_files_a86) (S1_.files).length (S1_files_c87)] 60 :: grow 29 RFile h43 (S1_.files) (S1_files_a86) (S1_files_c87) :: row (D1_b9) [.bool (D1_.is), .int .i64 (D1_.left), .int .i64 (D1_.n), .map (some (D1_held_b10)), .slice (D_pend_a158) (D1_.pend).length (D_pend_c159)] 78 :: mpG Mwr (D1_held_b10) (D1_.held) (D_held_k157) :: grow 80 RWr h43 (D1_.pend) (D_pend_a158) (D_pend_c159) :: L) w104 := (((((((((((hS106.move (i := 10) rfl).move (i := 10) rfl).move (i := 10) rfl).move (i := 5) rfl).move (i := 5) rfl).move (i := 8) rfl).remove 10).remove 9).remove 8).remove 7).remove 6)
      exact ⟨(i + 1, (mapS z_l_i 6 40), r_a41, r_c42, (S1_b85), S1_, S1_files_a86, S1_files_c87, D1_, (D_held_k157), D_pend_a158, D_pend_c159), ⟨rfl, rfl, (by first | rfl | (apply congrArg (Value.int .i64); omega) | simp), rfl, (by first | rfl | (apply congrArg (Value.int .i64); omega) | simp), (by first | rfl | (apply congrArg (Value.int .i64); omega) | simp), trivial⟩, ⟨h43, (hl25.trans hl44), hS107, (by (try dsimp only); first | assumption | omega | simp), (by (try dsimp only); exact i1_), (by (try dsimp only); exact g1_), (by (try dsimp only); exact hs45)⟩, (by first | (simp only []; omega) | (simp; omega))⟩
    · skip
      refine WC.exit ?_
      refine then_exit ?_
      refine then_exit ?_
      refine block_exit ?_
      refine then_normal ?_
      refine WC.seq ?_
      have ic_ := f3.crash []
      refine WC.region ?_
      refine WL.val1 (R_move (v := .pointer (some ⟨D1_b9, 0, none⟩)) rfl) ?_
      have hS110 : St Γ h24 (row (D1_b9) [.bool (E.is), .int .i64 (E.left), .int .i64 (E.n), .map (some (D1_held_b10)), .slice (E_pend_a) (E.pend).length (E_pend_c)] 78 :: mpG Mwr (D1_held_b10) (E.held) (E_held_k) :: grow 80 RWr h24 (E.pend) (E_pend_a) (E_pend_c) :: emp :: row (T_b) [.pointer (some ⟨D1_b9, 0, none⟩), .int .i64 (T.g0), .int .i64 (T.z0), .int .i64 (T.g1), .int .i64 (T.z1), .slice (T_files_a) (T.files).length (T_files_c)] 60 :: grow 29 RFile h24 (T.files) (T_files_a) (T_files_c) :: emp :: emp :: emp :: L) w23 := (((hS22.front (i := 5) rfl).front (i := 5) rfl).front (i := 5) rfl)
      refine S_callH (vs := [.pointer (some ⟨D1_b9, 0, none⟩), .slice none 0 0]) (A := fun hh_ => [row (D1_b9) [.bool (E.is), .int .i64 (E.left), .int .i64 (E.n), .map (some (D1_held_b10)), .slice (E_pend_a) (E.pend).length (E_pend_c)] 78, mpG Mwr (D1_held_b10) (E.held) (E_held_k), grow 80 RWr hh_ (E.pend) (E_pend_a) (E_pend_c)]) (L := emp :: row (T_b) [.pointer (some ⟨D1_b9, 0, none⟩), .int .i64 (T.g0), .int .i64 (T.z0), .int .i64 (T.g1), .int .i64 (T.z1), .slice (T_files_a) (T.files).length (T_files_c)] 60 :: grow 29 RFile h24 (T.files) (T_files_a) (T_files_c) :: emp :: emp :: emp :: L) hS110 Tryz.call17 rfl (disk_Crash (E) (D1_b9) (D1_held_b10) (E_held_k) (E_pend_a) (E_pend_c) [] none 0 f3.pb2) (Sl.nil _ _ _ _) ?_
      intro A111 v112 w109 hp113 hS108
      obtain ⟨D_held_k1114, D_pend_a1115, D_pend_c1116, rfl, rfl⟩ := hp113
      have hS108 : St Γ h24 (row (D1_b9) [.bool ((crashD E ([])).is), .int .i64 ((crashD E ([])).left), .int .i64 ((crashD E ([])).n), .map (some (D1_held_b10)), .slice (D_pend_a1115) ((crashD E ([])).pend).length (D_pend_c1116)] 78 :: mpG Mwr (D1_held_b10) ((crashD E ([])).held) (D_held_k1114) :: grow 80 RWr h24 ((crashD E ([])).pend) (D_pend_a1115) (D_pend_c1116) :: emp :: row (T_b) [.pointer (some ⟨D1_b9, 0, none⟩), .int .i64 (T.g0), .int .i64 (T.z0), .int .i64 (T.g1), .int .i64 (T.z1), .slice (T_files_a) (T.files).length (T_files_c)] 60 :: grow 29 RFile h24 (T.files) (T_files_a) (T_files_c) :: emp :: emp :: emp :: L) w109 := hS108
      have hS117 : St Γ h24 (emp :: row (T_b) [.pointer (some ⟨D1_b9, 0, none⟩), .int .i64 (T.g0), .int .i64 (T.z0), .int .i64 (T.g1), .int .i64 (T.z1), .slice (T_files_a) (T.files).length (T_files_c)] 60 :: grow 29 RFile h24 (T.files) (T_files_a) (T_files_c) :: row (D1_b9) [.bool ((crashD E ([])).is), .int .i64 ((crashD E ([])).left), .int .i64 ((crashD E ([])).n), .map (some (D1_held_b10)), .slice (D_pend_a1115) ((crashD E ([])).pend).length (D_pend_c1116)] 78 :: mpG Mwr (D1_held_b10) ((crashD E ([])).held) (D_held_k1114) :: grow 80 RWr h24 ((crashD E ([])).pend) (D_pend_a1115) (D_pend_c1116) :: L) w109 := (St.back2 (i := 5) (St.back2 (i := 5) (St.back2 (i := 5) hS108 rfl) rfl) rfl)
      refine WL.nil ?_
      refine then_normal ?_
      refine WC.seq ?_
      refine WC.region ?_
      refine WL.val1 (R_move (v := .pointer (some ⟨D1_b9, 0, none⟩)) rfl) ?_
      have hS120 : St Γ h24 (row (D1_b9) [.bool ((crashD E ([])).is), .int .i64 ((crashD E ([])).left), .int .i64 ((crashD E ([])).n), .map (some (D1_held_b10)), .slice (D_pend_a1115) ((crashD E ([])).pend).length (D_pend_c1116)] 78 :: mpG Mwr (D1_held_b10) ((crashD E ([])).held) (D_held_k1114) :: grow 80 RWr h24 ((crashD E ([])).pend) (D_pend_a1115) (D_pend_c1116) :: emp :: row (T_b) [.pointer (some ⟨D1_b9, 0, none⟩), .int .i64 (T.g0), .int .i64 (T.z0), .int .i64 (T.g1), .int .i64 (T.z1), .slice (T_files_a) (T.files).length (T_files_c)] 60 :: grow 29 RFile h24 (T.files) (T_files_a) (T_files_c) :: emp :: emp :: emp :: L) w109 := (((hS117.front (i := 5) rfl).front (i := 5) rfl).front (i := 5) rfl)
      refine S_callH (vs := [.pointer (some ⟨D1_b9, 0, none⟩)]) (A := fun hh_ => [row (D1_b9) [.bool ((crashD E ([])).is), .int .i64 ((crashD E ([])).left), .int .i64 ((crashD E ([])).n), .map (some (D1_held_b10)), .slice (D_pend_a1115) ((crashD E ([])).pend).length (D_pend_c1116)] 78, mpG Mwr (D1_held_b10) ((crashD E ([])).held) (D_held_k1114), grow 80 RWr hh_ ((crashD E ([])).pend) (D_pend_a1115) (D_pend_c1116)]) (L := emp :: row (T_b) [.pointer (some ⟨D1_b9, 0, none⟩), .int .i64 (T.g0), .int .i64 (T.z0), .int .i64 (T.g1), .int .i64 (T.z1), .slice (T_files_a) (T.files).length (T_files_c)] 60 :: grow 29 RFile h24 (T.files) (T_files_a) (T_files_c) :: emp :: emp :: emp :: L) hS120 Tryz.call18 rfl (store_Open (crashD E ([])) (D1_b9) (D1_held_b10) (D_held_k1114) (D_pend_a1115) (D_pend_c1116) (T) ((filesS T.files)) (ic_.nb (by decide)) rfl ic_.opens) trivial ?_
      intro A121 v122 w119 hp123 hS118
      obtain ⟨S1_b124, S1_files_a125, S1_files_c126, rfl, rfl⟩ := hp123
      have hS118 : St Γ h24 (row (D1_b9) [.bool ((crashD E ([])).is), .int .i64 ((crashD E ([])).left), .int .i64 ((crashD E ([])).n), .map (some (D1_held_b10)), .slice (D_pend_a1115) ((crashD E ([])).pend).length (D_pend_c1116)] 78 :: mpG Mwr (D1_held_b10) ((crashD E ([])).held) (D_held_k1114) :: grow 80 RWr h24 ((crashD E ([])).pend) (D_pend_a1115) (D_pend_c1116) :: row (S1_b124) [.pointer (some ⟨D1_b9, 0, none⟩), .int .i64 (T.g0), .int .i64 (T.z0), .int .i64 (T.g1), .int .i64 (T.z1), .slice (S1_files_a125) (T.files).length (S1_files_c126)] 60 :: grow 29 RFile h24 (T.files) (S1_files_a125) (S1_files_c126) :: emp :: row (T_b) [.pointer (some ⟨D1_b9, 0, none⟩), .int .i64 (T.g0), .int .i64 (T.z0), .int .i64 (T.g1), .int .i64 (T.z1), .slice (T_files_a) (T.files).length (T_files_c)] 60 :: grow 29 RFile h24 (T.files) (T_files_a) (T_files_c) :: emp :: emp :: emp :: L) w119 := hS118
      have hS127 : St Γ h24 (row (S1_b124) [.pointer (some ⟨D1_b9, 0, none⟩), .int .i64 (T.g0), .int .i64 (T.z0), .int .i64 (T.g1), .int .i64 (T.z1), .slice (S1_files_a125) (T.files).length (S1_files_c126)] 60 :: grow 29 RFile h24 (T.files) (S1_files_a125) (S1_files_c126) :: emp :: row (T_b) [.pointer (some ⟨D1_b9, 0, none⟩), .int .i64 (T.g0), .int .i64 (T.z0), .int .i64 (T.g1), .int .i64 (T.z1), .slice (T_files_a) (T.files).length (T_files_c)] 60 :: grow 29 RFile h24 (T.files) (T_files_a) (T_files_c) :: row (D1_b9) [.bool ((crashD E ([])).is), .int .i64 ((crashD E ([])).left), .int .i64 ((crashD E ([])).n), .map (some (D1_held_b10)), .slice (D_pend_a1115) ((crashD E ([])).pend).length (D_pend_c1116)] 78 :: mpG Mwr (D1_held_b10) ((crashD E ([])).held) (D_held_k1114) :: grow 80 RWr h24 ((crashD E ([])).pend) (D_pend_a1115) (D_pend_c1116) :: L) w119 := (St.back2 (i := 7) (St.back2 (i := 7) (St.back2 (i := 7) hS118 rfl) rfl) rfl)
      refine WL.val1 (R_move (v := .tuple #[.pointer (some ⟨S1_b124, 0, none⟩), .int .i64 (0)]) rfl) ?_
      refine WL.val1 (R_extract (vs := ([.pointer (some ⟨S1_b124, 0, none⟩), .int .i64 (0)] : List Value).toArray) (v := .pointer (some ⟨S1_b124, 0, none⟩)) rfl rfl) ?_
      refine WL.val1 (R_extract (vs := ([.pointer (some ⟨S1_b124, 0, none⟩), .int .i64 (0)] : List Value).toArray) (v := .int .i64 (0)) rfl rfl) ?_
      refine WL.val1 (R_assign (v := .pointer (some ⟨S1_b124, 0, none⟩)) rfl) ?_
      refine WL.val1 (R_assign (v := .int .i64 (0)) rfl) ?_
      refine WL.nil ?_
      refine then_normal ?_
      refine WC.seq ?_
      refine WC.region ?_
      refine WL.val1 (R_move (v := .int .i64 (n)) rfl) ?_
      refine WL_andMask (a := n) (m := 65535) rfl rfl (by decide) ?_
      intro v128 hv129
      refine WL.val1 (R_assign (v := .int .i64 (((v128 : Nat) : Int))) rfl) ?_
      refine WL.nil ?_
      refine then_normal ?_
      refine WC.seq ?_
      have hrm_ := rooms_ok
      have hrl_ := roomS_le (((v128 : Nat) : Int))
      refine WC.region ?_
      refine WL.val1 (R_move (v := .pointer (some ⟨S1_b124, 0, none⟩)) rfl) ?_
      refine WL.val1 (R_ptrNeq rfl rfl Tryz.underlying23) ?_
      refine WL.val1 (R_move (v := .bool (true)) rfl) ?_
      refine WL_unguard (yl_eq (d := 83) rfl rfl) ?_
      refine WL.val1 (R_move (v := .int .i64 (0)) rfl) ?_
      refine WL_unguard (yl_eq (d := 83) rfl rfl) ?_
      refine WL.val1 (R_cast (R_eql (a := 0) (b := 0) rfl rfl) (bool_true (by decide))) ?_
      refine WL.val1 (R_pick (cb := true) (v := .bool (true)) rfl (fun _ => rfl) (fun h => by cases h)) ?_
      refine WL.val1 (R_move (v := .bool (true)) rfl) ?_
      refine WL_unguard (yl_eq (d := 87) rfl rfl) ?_
      refine WL.val1 (R_move (v := .pointer (some ⟨S1_b124, 0, none⟩)) rfl) ?_
      refine WL_unguard (yl_eq (d := 87) rfl rfl) ?_
      have hS132 : St Γ h24 (row (S1_b124) [.pointer (some ⟨D1_b9, 0, none⟩), .int .i64 (T.g0), .int .i64 (T.z0), .int .i64 (T.g1), .int .i64 (T.z1), .slice (S1_files_a125) (T.files).length (S1_files_c126)] 60 :: grow 29 RFile h24 (T.files) (S1_files_a125) (S1_files_c126) :: row (D1_b9) [.bool ((crashD E ([])).is), .int .i64 ((crashD E ([])).left), .int .i64 ((crashD E ([])).n), .map (some (D1_held_b10)), .slice (D_pend_a1115) ((crashD E ([])).pend).length (D_pend_c1116)] 78 :: mpG Mwr (D1_held_b10) ((crashD E ([])).held) (D_held_k1114) :: grow 80 RWr h24 ((crashD E ([])).pend) (D_pend_a1115) (D_pend_c1116) :: emp :: emp :: emp :: row (T_b) [.pointer (some ⟨D1_b9, 0, none⟩), .int .i64 (T.g0), .int .i64 (T.z0), .int .i64 (T.g1), .int .i64 (T.z1), .slice (T_files_a) (T.files).length (T_files_c)] 60 :: grow 29 RFile h24 (T.files) (T_files_a) (T_files_c) :: emp :: emp :: emp :: L) w119 := (((((hS127.front (i := 7) rfl).front (i := 7) rfl).front (i := 7) rfl).front (i := 4) rfl).front (i := 4) rfl)
      refine S_callH (vs := [.pointer (some ⟨S1_b124, 0, none⟩)]) (A := fun hh_ => [row (S1_b124) [.pointer (some ⟨D1_b9, 0, none⟩), .int .i64 (T.g0), .int .i64 (T.z0), .int .i64 (T.g1), .int .i64 (T.z1), .slice (S1_files_a125) (T.files).length (S1_files_c126)] 60, grow 29 RFile hh_ (T.files) (S1_files_a125) (S1_files_c126), row (D1_b9) [.bool ((crashD E ([])).is), .int .i64 ((crashD E ([])).left), .int .i64 ((crashD E ([])).n), .map (some (D1_held_b10)), .slice (D_pend_a1115) ((crashD E ([])).pend).length (D_pend_c1116)] 78, mpG Mwr (D1_held_b10) ((crashD E ([])).held) (D_held_k1114), grow 80 RWr hh_ ((crashD E ([])).pend) (D_pend_a1115) (D_pend_c1116)]) (L := emp :: emp :: emp :: row (T_b) [.pointer (some ⟨D1_b9, 0, none⟩), .int .i64 (T.g0), .int .i64 (T.z0), .int .i64 (T.g1), .int .i64 (T.z1), .slice (T_files_a) (T.files).length (T_files_c)] 60 :: grow 29 RFile h24 (T.files) (T_files_a) (T_files_c) :: emp :: emp :: emp :: L) hS132 Tryz.call15 rfl (store_Load (T) (S1_b124) (S1_files_a125) (S1_files_c126) (crashD E ([])) (D1_b9) (D1_held_b10) (D_held_k1114) (D_pend_a1115) (D_pend_c1116) ic_.sz) trivial ?_
      intro A133 v134 w131 hp135 hS130
      obtain ⟨r_a136, r_c137, rfl, rfl⟩ := hp135
      have hS130 : St Γ h24 (row (S1_b124) [.pointer (some ⟨D1_b9, 0, none⟩), .int .i64 (T.g0), .int .i64 (T.z0), .int .i64 (T.g1), .int .i64 (T.z1), .slice (S1_files_a125) (T.files).length (S1_files_c126)] 60 :: grow 29 RFile h24 (T.files) (S1_files_a125) (S1_files_c126) :: row (D1_b9) [.bool ((crashD E ([])).is), .int .i64 ((crashD E ([])).left), .int .i64 ((crashD E ([])).n), .map (some (D1_held_b10)), .slice (D_pend_a1115) ((crashD E ([])).pend).length (D_pend_c1116)] 78 :: mpG Mwr (D1_held_b10) ((crashD E ([])).held) (D_held_k1114) :: grow 80 RWr h24 ((crashD E ([])).pend) (D_pend_a1115) (D_pend_c1116) :: grow 29 RFile h24 (T.files) (r_a136) (r_c137) :: emp :: emp :: emp :: row (T_b) [.pointer (some ⟨D1_b9, 0, none⟩), .int .i64 (T.g0), .int .i64 (T.z0), .int .i64 (T.g1), .int .i64 (T.z1), .slice (T_files_a) (T.files).length (T_files_c)] 60 :: grow 29 RFile h24 (T.files) (T_files_a) (T_files_c) :: emp :: emp :: emp :: L) w131 := hS130
      have hS138 : St Γ h24 (grow 29 RFile h24 (T.files) (r_a136) (r_c137) :: row (S1_b124) [.pointer (some ⟨D1_b9, 0, none⟩), .int .i64 (T.g0), .int .i64 (T.z0), .int .i64 (T.g1), .int .i64 (T.z1), .slice (S1_files_a125) (T.files).length (S1_files_c126)] 60 :: grow 29 RFile h24 (T.files) (S1_files_a125) (S1_files_c126) :: emp :: row (T_b) [.pointer (some ⟨D1_b9, 0, none⟩), .int .i64 (T.g0), .int .i64 (T.z0), .int .i64 (T.g1), .int .i64 (T.z1), .slice (T_files_a) (T.files).length (T_files_c)] 60 :: grow 29 RFile h24 (T.files) (T_files_a) (T_files_c) :: row (D1_b9) [.bool ((crashD E ([])).is), .int .i64 ((crashD E ([])).left), .int .i64 ((crashD E ([])).n), .map (some (D1_held_b10)), .slice (D_pend_a1115) ((crashD E ([])).pend).length (D_pend_c1116)] 78 :: mpG Mwr (D1_held_b10) ((crashD E ([])).held) (D_held_k1114) :: grow 80 RWr h24 ((crashD E ([])).pend) (D_pend_a1115) (D_pend_c1116) :: L) w131 := (St.back2 (i := 8) (St.back2 (i := 8) (St.back2 (i := 8) (St.back2 (i := 5) (St.back2 (i := 5) hS130 rfl) rfl) rfl) rfl) rfl)
      refine WL_unguard (yl_eq (d := 87) rfl rfl) ?_
      refine WL.val1 (R_move (v := .slice (last_a) (last).length (last_c)) rfl) ?_
      refine WL_unguard (yl_eq (d := 87) rfl rfl) ?_
      obtain ⟨h139, hl140, hs141, hS142, back143⟩ := hS138.lendG (i := 0) rfl (Hp.le_refl _)
      refine S_callP (vs := [.slice (r_a136) (T.files).length (r_c137), .slice (last_a) (last).length (last_c)]) hS142 Tryz.call14 rfl (law_Same (T.files) (r_a136) (r_c137) (last) (last_a) (last_c) (by have := ic_.sz; omega)) ⟨hs141, (sl_last.mono hl140)⟩ ?_
      intro w145 hS144
      have hS146 := back143 _ 0 _ rfl hS144
      have hS147 : St Γ h24 (grow 29 RFile h24 (T.files) (r_a136) (r_c137) :: row (S1_b124) [.pointer (some ⟨D1_b9, 0, none⟩), .int .i64 (T.g0), .int .i64 (T.z0), .int .i64 (T.g1), .int .i64 (T.z1), .slice (S1_files_a125) (T.files).length (S1_files_c126)] 60 :: grow 29 RFile h24 (T.files) (S1_files_a125) (S1_files_c126) :: emp :: row (T_b) [.pointer (some ⟨D1_b9, 0, none⟩), .int .i64 (T.g0), .int .i64 (T.z0), .int .i64 (T.g1), .int .i64 (T.z1), .slice (T_files_a) (T.files).length (T_files_c)] 60 :: grow 29 RFile h24 (T.files) (T_files_a) (T_files_c) :: row (D1_b9) [.bool ((crashD E ([])).is), .int .i64 ((crashD E ([])).left), .int .i64 ((crashD E ([])).n), .map (some (D1_held_b10)), .slice (D_pend_a1115) ((crashD E ([])).pend).length (D_pend_c1116)] 78 :: mpG Mwr (D1_held_b10) ((crashD E ([])).held) (D_held_k1114) :: grow 80 RWr h24 ((crashD E ([])).pend) (D_pend_a1115) (D_pend_c1116) :: L) w145 := hS146
      refine WL.val1 (R_cast (R_pick (cb := true) (v := .bool (decide (T.files = last))) rfl (fun _ => rfl) (fun h => by cases h)) (bool_true (by exact decide_eq_true f4))) ?_
      refine WL.val1 (R_move (v := .bool (true)) rfl) ?_
      refine WL_unguard (yl_eq (d := 93) rfl rfl) ?_
      refine WL.val1 (R_move (v := .int .i64 (((v128 : Nat) : Int))) rfl) ?_
      refine WL_unguard (yl_eq (d := 93) rfl rfl) ?_
      refine S_callP (vs := [.int .i64 (((v128 : Nat) : Int))]) hS147 Tryz.call8 rfl (store_Room (((v128 : Nat) : Int)) (by first | assumption | omega)) trivial ?_
      intro w149 hS148
      refine WL_unguard (yl_eq (d := 93) rfl rfl) ?_
      refine WL.val1 (R_move (v := .int .i64 (((v128 : Nat) : Int))) rfl) ?_
      refine WL_unguard (yl_eq (d := 93) rfl rfl) ?_
      refine WL.val1 (R_add_i (a := ((v128 : Nat) : Int)) (b := 1) rfl rfl (by omega)) ?_
      refine WL_unguard (yl_eq (d := 93) rfl rfl) ?_
      refine S_callP (vs := [.int .i64 ((((v128 : Nat) : Int) + 1))]) hS148 Tryz.call8 rfl (store_Room ((((v128 : Nat) : Int) + 1)) (by first | assumption | omega)) trivial ?_
      intro w151 hS150
      refine WL_unguard (yl_eq (d := 93) rfl rfl) ?_
      refine WL.val1 (R_cast (R_leq (a := (roomS (((v128 : Nat) : Int)))) (b := (roomS ((((v128 : Nat) : Int) + 1)))) rfl rfl) (bool_true (by exact decide_eq_true (hrm_ _).1))) ?_
      refine WL.val1 (R_pick (cb := true) (v := .bool (true)) rfl (fun _ => rfl) (fun h => by cases h)) ?_
      refine WL.val1 (R_move (v := .bool (true)) rfl) ?_
      refine WL_unguard (yl_eq (d := 101) rfl rfl) ?_
      refine WL.val1 (R_move (v := .int .i64 (((v128 : Nat) : Int))) rfl) ?_
      refine WL_unguard (yl_eq (d := 101) rfl rfl) ?_
      refine WL.val1 (R_add_i (a := ((v128 : Nat) : Int)) (b := 2) rfl rfl (by omega)) ?_
      refine WL_unguard (yl_eq (d := 101) rfl rfl) ?_
      refine S_callP (vs := [.int .i64 ((((v128 : Nat) : Int) + 2))]) hS150 Tryz.call8 rfl (store_Room ((((v128 : Nat) : Int) + 2)) (by first | assumption | omega)) trivial ?_
      intro w153 hS152
      refine WL_unguard (yl_eq (d := 101) rfl rfl) ?_
      refine WL.val1 (R_move (v := .int .i64 (((v128 : Nat) : Int))) rfl) ?_
      refine WL_unguard (yl_eq (d := 101) rfl rfl) ?_
      refine S_callP (vs := [.int .i64 (((v128 : Nat) : Int))]) hS152 Tryz.call8 rfl (store_Room (((v128 : Nat) : Int)) (by first | assumption | omega)) trivial ?_
      intro w155 hS154
      refine WL_unguard (yl_eq (d := 101) rfl rfl) ?_
      refine WL.val1 (R_add_i (a := (roomS (((v128 : Nat) : Int)))) (b := 64) rfl rfl (by omega)) ?_
      refine WL_unguard (yl_eq (d := 101) rfl rfl) ?_
      refine WL.val1 (R_cast (R_leq (a := (roomS ((((v128 : Nat) : Int) + 2)))) (b := ((roomS (((v128 : Nat) : Int))) + 64)) rfl rfl) (bool_true (by exact decide_eq_true (hrm_ _).2))) ?_
      refine WL.val1 (R_pick (cb := true) (v := .bool (true)) rfl (fun _ => rfl) (fun h => by cases h)) ?_
      refine WL.val1 (R_move (v := .bool (true)) rfl) ?_
      refine WL_unguard (yl_eq (d := 110) rfl rfl) ?_
      refine WL.val1 (R_move (v := .int .i64 (((v128 : Nat) : Int))) rfl) ?_
      refine WL_unguard (yl_eq (d := 110) rfl rfl) ?_
      refine S_callP (vs := [.int .i64 (((v128 : Nat) : Int))]) hS154 Tryz.call8 rfl (store_Room (((v128 : Nat) : Int)) (by first | assumption | omega)) trivial ?_
      intro w157 hS156
      refine WL_unguard (yl_eq (d := 110) rfl rfl) ?_
      refine WL.val1 (R_move (v := .int .i64 (((v128 : Nat) : Int))) rfl) ?_
      refine WL_unguard (yl_eq (d := 110) rfl rfl) ?_
      refine S_callP (vs := [.int .i64 (((v128 : Nat) : Int))]) hS156 Tryz.call9 rfl (ref05_Room (((v128 : Nat) : Int)) (by first | assumption | omega)) trivial ?_
      intro w159 hS158
      refine WL_unguard (yl_eq (d := 110) rfl rfl) ?_
      refine WL.val1 (R_cast (R_eql (a := (roomS (((v128 : Nat) : Int)))) (b := (roomS (((v128 : Nat) : Int)))) rfl rfl) (bool_true (by exact decide_eq_true rfl))) ?_
      refine WL.val1 (R_pick (cb := true) (v := .bool (true)) rfl (fun _ => rfl) (fun h => by cases h)) ?_
      refine WL.val1 (R_move (v := .bool (true)) rfl) ?_
      refine WL_unguard (yl_eq (d := 117) rfl rfl) ?_
      refine S_callP (vs := []) hS158 Tryz.call11 rfl law_fixed trivial ?_
      intro w161 hS160
      refine WL.val1 (R_pick (cb := true) (v := .bool (true)) rfl (fun _ => rfl) (fun h => by cases h)) ?_
      refine WL.val1 (R_assign (v := .bool (true)) rfl) ?_
      refine WL.nil ?_
      refine then_normal ?_
      refine WC.ret ?_
      refine top_ret (.bool (true)) (gives1 rfl rfl) ?_
      exact ⟨(by rfl), (hS160.pop.pop.pop.pop.pop.pop.pop.pop.pop.weaken_h (hl17.trans hl25))⟩
end Go.Stet
