/- What the layers compute, in plain Lean, and laws about that. Each under the conditions that its own statement names. -/
import Derived.Test.YtcnhcckbdmjdiaaGreatDoorSeatS3
import Derived.Test.YtcnhcckbdmjdiaaGreatDoorBldS
import Derived.Test.YtcnhcckbdmjdiaaGreatDoorEng18
import Derived.Test.YtcnhcckbdmjdiaaGreatDoorSpecS1
import Derived.Test.YtcnhcckbdmjdiaaGreatDoorSpecS3
import Derived.Test.YtcnhcckbdmjdiaaGreatDoorS10
set_option linter.all false
set_option linter.unusedSimpArgs false
set_option linter.unusedVariables false
namespace Go.Stet
open Go Go.Eng Go.Proofs
set_option maxHeartbeats 1000000 in
theorem law_StoreRoom (n : Int) (hn : -9223372036854775808 ≤ n ∧ n ≤ 9223372036854775807) : PureC GG Tryz.prog 3 (fun _ => True) [.int .i64 (n)] (.bool (true)) := by
  intro Γ h L w hpre hS
  refine Ret.body Tryz.func3 rfl Tryz.ntmps3 (Nat.le_of_ble_eq_true rfl) ?_
  refine WC.seq ?_
  refine WC.region ?_
  refine WL.val1 (R_assign (v := .bool (false)) rfl) ?_
  refine WL.nil ?_
  refine then_normal ?_
  refine WC.seq ?_
  refine WC.seq ?_
  refine WC.region ?_
  refine WL.val1 (R_move (v := .int .i64 (n)) rfl) ?_
  refine S_callP (vs := [.int .i64 (n)]) hS Tryz.call8 rfl (store_Room (n) (by first | assumption | omega)) trivial ?_
  intro w2 hS1
  refine WL.val1 (R_move (v := .int .i64 (n)) rfl) ?_
  refine S_callP (vs := [.int .i64 (n)]) hS1 Tryz.call9 rfl (ref05_Room (n) (by first | assumption | omega)) trivial ?_
  intro w4 hS3
  refine WL.val1 (R_cast (R_neq (a := (roomS n)) (b := (roomS n)) rfl rfl) (bool_false (by exact decide_eq_false (by simp)))) ?_
  refine WL.nil ?_
  refine then_normal ?_
  refine WC.condF rfl ?_
  refine WC.skip ?_
  refine then_normal ?_
  refine WC.seq ?_
  refine WC.region ?_
  refine WL.val1 (R_move (v := .int .i64 (n)) rfl) ?_
  refine WL_andMask (a := n) (m := 63) rfl rfl (by decide) ?_
  intro v5 hv6
  refine WL.val1 (R_add_i (a := 1) (b := ((v5 : Nat) : Int)) rfl rfl (by omega)) ?_
  refine WL.val1 (R_assign (v := .int .i64 ((1 + ((v5 : Nat) : Int)))) rfl) ?_
  refine WL.nil ?_
  refine then_normal ?_
  refine WC.seq ?_
  by_cases hk_ : (4 : Int) ≤ (1 + ((v5 : Nat) : Int))
  · skip
    refine WC.region ?_
    refine WL.val1 (R_move (v := .int .i64 ((1 + ((v5 : Nat) : Int)))) rfl) ?_
    refine S_callH (vs := [.int .i64 ((1 + ((v5 : Nat) : Int)))]) (A := fun hh_ => []) (L := L) hS3 Tryz.call10 rfl (law_On ((1 + ((v5 : Nat) : Int))) (by first | assumption | omega)) trivial ?_
    intro A9 v10 w8 hp11 hS7
    obtain ⟨S1_b12, S1_files_a13, S1_files_c14, D1_b15, D1_held_b16, D1_held_k17, D1_pend_a18, D1_pend_c19, rfl, rfl⟩ := hp11
    have hS7 : St Γ h (row (S1_b12) [.pointer (some ⟨D1_b15, 0, none⟩), .int .i64 (emptyS.g0), .int .i64 (emptyS.z0), .int .i64 (emptyS.g1), .int .i64 (emptyS.z1), .slice (S1_files_a13) (emptyS.files).length (S1_files_c14)] 60 :: grow 29 RFile h (emptyS.files) (S1_files_a13) (S1_files_c14) :: row (D1_b15) [.bool ((newD ((1 + ((v5 : Nat) : Int)))).is), .int .i64 ((newD ((1 + ((v5 : Nat) : Int)))).left), .int .i64 ((newD ((1 + ((v5 : Nat) : Int)))).n), .map (some (D1_held_b16)), .slice (D1_pend_a18) ((newD ((1 + ((v5 : Nat) : Int)))).pend).length (D1_pend_c19)] 78 :: mpG Mwr (D1_held_b16) ((newD ((1 + ((v5 : Nat) : Int)))).held) (D1_held_k17) :: grow 80 RWr h ((newD ((1 + ((v5 : Nat) : Int)))).pend) (D1_pend_a18) (D1_pend_c19) :: L) w8 := hS7
    refine WL.val1 (R_move (v := .tuple #[.pointer (some ⟨S1_b12, 0, none⟩), .pointer (some ⟨D1_b15, 0, none⟩)]) rfl) ?_
    refine WL.val1 (R_extract (vs := ([.pointer (some ⟨S1_b12, 0, none⟩), .pointer (some ⟨D1_b15, 0, none⟩)] : List Value).toArray) (v := .pointer (some ⟨S1_b12, 0, none⟩)) rfl rfl) ?_
    refine WL.val1 (R_extract (vs := ([.pointer (some ⟨S1_b12, 0, none⟩), .pointer (some ⟨D1_b15, 0, none⟩)] : List Value).toArray) (v := .pointer (some ⟨D1_b15, 0, none⟩)) rfl rfl) ?_
    refine WL.val1 (R_assign (v := .pointer (some ⟨S1_b12, 0, none⟩)) rfl) ?_
    refine WL.val1 (R_assign (v := .pointer (some ⟨D1_b15, 0, none⟩)) rfl) ?_
    refine WL.nil ?_
    refine then_normal ?_
    refine WC.seq ?_
    refine WC.seq ?_
    refine WC.region ?_
    refine WL.val1 (R_move (v := .int .i64 ((1 + ((v5 : Nat) : Int)))) rfl) ?_
    refine WL.val1 (R_cast (R_lss (a := (1 + ((v5 : Nat) : Int))) (b := 4) rfl rfl) (bool_false (by exact decide_eq_false (by omega)))) ?_
    refine WL.nil ?_
    refine then_normal ?_
    refine WC.condF rfl ?_
    refine WC.skip ?_
    refine then_normal ?_
    refine WC.seq ?_
    refine WC.seq ?_
    refine WC.region ?_
    refine WL.val1 (R_move (v := .pointer (some ⟨S1_b12, 0, none⟩)) rfl) ?_
    refine WL.val1 (R_ptrEql rfl rfl Tryz.underlying23) ?_
    refine WL.val1 (R_move (v := .bool (false)) rfl) ?_
    refine WL_unguard (yl_eq (d := 37) rfl rfl) ?_
    refine WL.val1 (R_move (v := .pointer (some ⟨D1_b15, 0, none⟩)) rfl) ?_
    refine WL_unguard (yl_eq (d := 37) rfl rfl) ?_
    refine WL.val1 (R_ptrEql rfl rfl Tryz.underlying24) ?_
    refine WL.val1 (R_pick (cb := false) (v := .bool (false)) rfl (fun h => by cases h) (fun _ => rfl)) ?_
    refine WL.nil ?_
    refine then_normal ?_
    refine WC.condF rfl ?_
    refine WC.skip ?_
    refine then_normal ?_
    refine WC.seq ?_
    refine WC.region ?_
    refine WL.val1 (R_assign (v := .string (B (([] : Str)))) rfl) ?_
    refine WL.nil ?_
    refine then_normal ?_
    refine WC.seq ?_
    refine WC.seq ?_
    refine WC.region ?_
    refine WL.val1 (R_assign (v := .int .i64 (0)) rfl) ?_
    refine WL.nil ?_
    refine then_normal ?_
    refine WC.block ?_
    refine WC.loopL (σ := Nat × Str)
      (fun (q_ : Nat × Str) => (fun (i : Nat) (u : Str) => [(3, .int .i64 ((1 + ((v5 : Nat) : Int)))), (4, .pointer (some ⟨S1_b12, 0, none⟩)), (6, .string (B (u))), (7, .int .i64 (((i : Nat) : Int)))]) (q_.1) (q_.2))
      (fun (q_ : Nat × Str) (w_ : World) => (fun (i : Nat) (u : Str) => ∃ h22 : Hp, h.le h22 ∧ St Γ h22 (row (S1_b12) [.pointer (some ⟨D1_b15, 0, none⟩), .int .i64 (emptyS.g0), .int .i64 (emptyS.z0), .int .i64 (emptyS.g1), .int .i64 (emptyS.z1), .slice (S1_files_a13) (emptyS.files).length (S1_files_c14)] 60 :: grow 29 RFile h22 (emptyS.files) (S1_files_a13) (S1_files_c14) :: row (D1_b15) [.bool ((newD ((1 + ((v5 : Nat) : Int)))).is), .int .i64 ((newD ((1 + ((v5 : Nat) : Int)))).left), .int .i64 ((newD ((1 + ((v5 : Nat) : Int)))).n), .map (some (D1_held_b16)), .slice (D1_pend_a18) ((newD ((1 + ((v5 : Nat) : Int)))).pend).length (D1_pend_c19)] 78 :: mpG Mwr (D1_held_b16) ((newD ((1 + ((v5 : Nat) : Int)))).held) (D1_held_k17) :: grow 80 RWr h22 ((newD ((1 + ((v5 : Nat) : Int)))).pend) (D1_pend_a18) (D1_pend_c19) :: L) w_ ∧ (u.length = i ∧ i ≤ 3000)) (q_.1) (q_.2))
      (fun (q_ : Nat × Str) => (fun (i : Nat) (u : Str) => 3000 - i) (q_.1) (q_.2)) (0, []) ?_ ?_ ?_
    · exact ⟨rfl, rfl, (by first | rfl | (apply congrArg (Value.int .i64); omega) | simp), (by first | rfl | (apply congrArg (Value.int .i64); omega) | simp), trivial⟩
    · exact ⟨h, Hp.le_refl _, hS7, (by exact ⟨rfl, Nat.zero_le _⟩)⟩
    · rintro ⟨i, u⟩ r24 w21 ⟨h22, hl23, hS20, f1⟩
      try dsimp only at f1
      have hr_ := roomS_le (1 + ((v5 : Nat) : Int))
      refine WC.seq ?_
      refine WC.seq ?_
      refine WC.region ?_
      refine WL.val1 (R_move (v := .int .i64 (((i : Nat) : Int))) rfl) ?_
      refine WL.val1 (R_move (v := .int .i64 ((1 + ((v5 : Nat) : Int)))) rfl) ?_
      refine S_callP (vs := [.int .i64 ((1 + ((v5 : Nat) : Int)))]) hS20 Tryz.call9 rfl (ref05_Room ((1 + ((v5 : Nat) : Int))) (by first | assumption | omega)) trivial ?_
      intro w26 hS25
      refine WL.val1 (R_sub_i (a := (roomS ((1 + ((v5 : Nat) : Int))))) (b := 10) rfl rfl (by omega)) ?_
      refine WL.val1 (R_lss (a := ((i : Nat) : Int)) (b := ((roomS ((1 + ((v5 : Nat) : Int)))) - 10)) rfl rfl) ?_
      refine WL.val1 (R_move (v := .bool (decide (((i : Nat) : Int) < ((roomS ((1 + ((v5 : Nat) : Int)))) - 10)))) rfl) ?_
      refine WL.gpure (gd := decide (((i : Nat) : Int) < ((roomS ((1 + ((v5 : Nat) : Int)))) - 10))) (yl_t (d := 46) rfl rfl) (fun hg => R_move (v := .int .i64 (((i : Nat) : Int))) rfl) ?_
      refine WL.gpure (gd := decide (((i : Nat) : Int) < ((roomS ((1 + ((v5 : Nat) : Int)))) - 10))) (yl_t (d := 46) rfl rfl) (fun hg => R_lss (a := ((i : Nat) : Int)) (b := 3000) (gvT hg rfl) rfl) ?_
      refine WL.val1 (R_and (cb := decide (((i : Nat) : Int) < ((roomS ((1 + ((v5 : Nat) : Int)))) - 10))) (yb := decide (((i : Nat) : Int) < 3000)) rfl rfl rfl) ?_
      refine WL.nil ?_
      refine then_normal ?_
      refine WC.condI ((((i : Nat) : Int) < ((roomS ((1 + ((v5 : Nat) : Int)))) - 10) ∧ ((i : Nat) : Int) < 3000)) (b := (decide (((i : Nat) : Int) < ((roomS ((1 + ((v5 : Nat) : Int)))) - 10)) && decide (((i : Nat) : Int) < 3000))) rfl (b_and b_dec b_dec) (fun c3 => ?_) (fun c3 => ?_)
      · skip
        refine WC.skip ?_
        refine then_normal ?_
        refine WC.seq ?_
        refine WC.block ?_
        refine WC.region ?_
        refine WL.val1 (R_move (v := .string (B (u))) rfl) ?_
        refine WL.val1 (R_sadd (a := u) (b := ([120] : Str)) rfl rfl (by (try simp only [List.length_append, List.length_cons, List.length_nil]); omega)) ?_
        refine WL.val1 (R_assign (v := .string (B ((u ++ ([120] : Str))))) rfl) ?_
        refine WL.nil ?_
        refine block_normal ?_
        refine then_normal ?_
        refine WC.region ?_
        refine WL.val1 (R_move (v := .int .i64 (((i : Nat) : Int))) rfl) ?_
        refine WL.val1 (R_add_i (a := ((i : Nat) : Int)) (b := 1) rfl rfl (by omega)) ?_
        refine WL.val1 (R_assign (v := .int .i64 ((((i : Nat) : Int) + 1))) rfl) ?_
        refine WL.nil ?_
        refine then_normal ?_
        exact ⟨(i + 1, (u ++ ([120] : Str))), ⟨rfl, rfl, (by first | rfl | (apply congrArg (Value.int .i64); omega) | simp), (by first | rfl | (apply congrArg (Value.int .i64); omega) | simp), trivial⟩, ⟨h22, hl23, hS25, (by (try dsimp only); rw [List.length_append]; simp; omega)⟩, (by first | (simp only []; omega) | (simp; omega))⟩
      · skip
        refine WC.exit ?_
        refine then_exit ?_
        refine then_exit ?_
        refine block_exit ?_
        refine then_normal ?_
        refine WC.seq ?_
        refine WC.seq ?_
        refine WC.region ?_
        refine WL.val1 (R_assign (v := .int .i64 (0)) rfl) ?_
        refine WL.nil ?_
        refine then_normal ?_
        refine WC.block ?_
        refine WC.loopL (σ := Nat × Str × Sto × (Option Addr) × Nat × Dsk × Nat × (Option Addr) × Nat)
          (fun (q_ : Nat × Str × Sto × (Option Addr) × Nat × Dsk × Nat × (Option Addr) × Nat) => (fun (i : Nat) (u : Str) (T : Sto) (T_files_a : Option Addr) (T_files_c : Nat) (E : Dsk) (E_held_k : Nat) (E_pend_a : Option Addr) (E_pend_c : Nat) => [(3, .int .i64 ((1 + ((v5 : Nat) : Int)))), (4, .pointer (some ⟨S1_b12, 0, none⟩)), (6, .string (B (u))), (8, .int .i64 (((i : Nat) : Int)))]) (q_.1) (q_.2.1) (q_.2.2.1) (q_.2.2.2.1) (q_.2.2.2.2.1) (q_.2.2.2.2.2.1) (q_.2.2.2.2.2.2.1) (q_.2.2.2.2.2.2.2.1) (q_.2.2.2.2.2.2.2.2))
          (fun (q_ : Nat × Str × Sto × (Option Addr) × Nat × Dsk × Nat × (Option Addr) × Nat) (w_ : World) => (fun (i : Nat) (u : Str) (T : Sto) (T_files_a : Option Addr) (T_files_c : Nat) (E : Dsk) (E_held_k : Nat) (E_pend_a : Option Addr) (E_pend_c : Nat) => ∃ h29 : Hp, h22.le h29 ∧ St Γ h29 (row (S1_b12) [.pointer (some ⟨D1_b15, 0, none⟩), .int .i64 (T.g0), .int .i64 (T.z0), .int .i64 (T.g1), .int .i64 (T.z1), .slice (T_files_a) (T.files).length (T_files_c)] 60 :: grow 29 RFile h29 (T.files) (T_files_a) (T_files_c) :: row (D1_b15) [.bool (E.is), .int .i64 (E.left), .int .i64 (E.n), .map (some (D1_held_b16)), .slice (E_pend_a) (E.pend).length (E_pend_c)] 78 :: mpG Mwr (D1_held_b16) (E.held) (E_held_k) :: grow 80 RWr h29 (E.pend) (E_pend_a) (E_pend_c) :: L) w_ ∧ (u.length ≤ 3000 + i ∧ i ≤ 10) ∧ (InvX E T (1 + ((v5 : Nat) : Int)) i)) (q_.1) (q_.2.1) (q_.2.2.1) (q_.2.2.2.1) (q_.2.2.2.2.1) (q_.2.2.2.2.2.1) (q_.2.2.2.2.2.2.1) (q_.2.2.2.2.2.2.2.1) (q_.2.2.2.2.2.2.2.2))
          (fun (q_ : Nat × Str × Sto × (Option Addr) × Nat × Dsk × Nat × (Option Addr) × Nat) => (fun (i : Nat) (u : Str) (T : Sto) (T_files_a : Option Addr) (T_files_c : Nat) (E : Dsk) (E_held_k : Nat) (E_pend_a : Option Addr) (E_pend_c : Nat) => 10 - i) (q_.1) (q_.2.1) (q_.2.2.1) (q_.2.2.2.1) (q_.2.2.2.2.1) (q_.2.2.2.2.2.1) (q_.2.2.2.2.2.2.1) (q_.2.2.2.2.2.2.2.1) (q_.2.2.2.2.2.2.2.2)) (0, u, emptyS, S1_files_a13, S1_files_c14, newD ((1 + ((v5 : Nat) : Int))), D1_held_k17, D1_pend_a18, D1_pend_c19) ?_ ?_ ?_
        · exact ⟨rfl, rfl, (by first | rfl | (apply congrArg (Value.int .i64); omega) | simp), (by first | rfl | (apply congrArg (Value.int .i64); omega) | simp), trivial⟩
        · exact ⟨h22, Hp.le_refl _, hS25, (by dsimp only; omega), (by exact InvX.new hk_)⟩
        · rintro ⟨i, u, T, T_files_a, T_files_c, E, E_held_k, E_pend_a, E_pend_c⟩ r31 w28 ⟨h29, hl30, hS27, f2, f3⟩
          try dsimp only at f2 f3
          have hc_ := fun (l : List File) => com_inv f3 (by omega) (by omega) l
          replace hc_ := hc_ [⟨[97], u⟩]
          have hnb_ := f3.nb (by omega)
          have hpb_ := f3.pb
          have hgb_ := f3.gb (by omega)
          refine WC.seq ?_
          refine WC.seq ?_
          refine WC.region ?_
          refine WL.val1 (R_move (v := .int .i64 (((i : Nat) : Int))) rfl) ?_
          refine WL.val1 (R_lss (a := ((i : Nat) : Int)) (b := 10) rfl rfl) ?_
          refine WL.val1 (R_move (v := .bool (decide (((i : Nat) : Int) < 10))) rfl) ?_
          refine WL.gpure (gd := decide (((i : Nat) : Int) < 10)) (yl_t (d := 56) rfl rfl) (fun hg => R_move (v := .string (B (u))) rfl) ?_
          refine WL.gpure (gd := decide (((i : Nat) : Int) < 10)) (yl_t (d := 56) rfl rfl) (fun hg => R_slen (a := u) (gvT hg rfl) Tryz.underlying9) ?_
          refine WL.gpure (gd := decide (((i : Nat) : Int) < 10)) (yl_t (d := 56) rfl rfl) (fun hg => R_lss (a := (((u).length : Nat) : Int)) (b := 3990) (gvT hg rfl) rfl) ?_
          refine WL.val1 (R_and (cb := decide (((i : Nat) : Int) < 10)) (yb := decide ((((u).length : Nat) : Int) < 3990)) rfl rfl rfl) ?_
          refine WL.nil ?_
          refine then_normal ?_
          refine WC.condI ((((i : Nat) : Int) < 10 ∧ (((u).length : Nat) : Int) < 3990)) (b := (decide (((i : Nat) : Int) < 10) && decide ((((u).length : Nat) : Int) < 3990))) rfl (b_and b_dec b_dec) (fun c4 => ?_) (fun c4 => ?_)
          · skip
            refine WC.skip ?_
            refine then_normal ?_
            refine WC.seq ?_
            refine WC.block ?_
            refine WC.seq ?_
            refine WC.region ?_
            refine WL.val1 (R_move (v := .string (B (u))) rfl) ?_
            refine WL.val1 (R_build (vs := [(0, .string (B (([97] : Str)))), (1, .string (B (u)))]) (v := .agg #[.string (B (([97] : Str))), .string (B (u))]) rfl (fun _ => by kernel_rfl)) ?_
            refine S_buildSliceC (R := RFile) (m := 1) (vs := [(0, .agg #[.string (B (([97] : Str))), .string (B (u))])]) (cells := [.string (B (([97] : Str))), .string (B (u))]) (xs := [{ name := ([97] : Str), text := u : File }]) hS27 Tryz.underlying30 Tryz.sizeOf29 Tryz.zeroValue29 (by decide) (by decide) rfl (by kernel_rfl) (by exact (⟨[.string (B (([97] : Str))), .string (B (u))], _, rfl, rfl, rfl⟩ : Flat RFile _ [{ name := ([97] : Str), text := u : File }] _)) rfl ?_
            intro h34 b36 w33 hl35 hs37 hS32
            refine WL.val1 (R_assign (v := .slice (some ⟨b36, 0, none⟩) 1 (1)) rfl) ?_
            refine WL.nil ?_
            refine then_normal ?_
            refine WC.seq ?_
            refine WC.region ?_
            refine WL.val1 (R_move (v := .pointer (some ⟨S1_b12, 0, none⟩)) rfl) ?_
            refine WL.val1 (R_move (v := .slice (some ⟨b36, 0, none⟩) 1 (1)) rfl) ?_
            have hS40 := hS32.growMono (i := 1) rfl hl35
            have hS41 := hS40.growMono (i := 4) rfl hl35
            refine S_callH (vs := [.pointer (some ⟨S1_b12, 0, none⟩), .slice (some ⟨b36, 0, none⟩) 1 (1)]) (A := fun hh_ => [row (S1_b12) [.pointer (some ⟨D1_b15, 0, none⟩), .int .i64 (T.g0), .int .i64 (T.z0), .int .i64 (T.g1), .int .i64 (T.z1), .slice (T_files_a) (T.files).length (T_files_c)] 60, grow 29 RFile hh_ (T.files) (T_files_a) (T_files_c), row (D1_b15) [.bool (E.is), .int .i64 (E.left), .int .i64 (E.n), .map (some (D1_held_b16)), .slice (E_pend_a) (E.pend).length (E_pend_c)] 78, mpG Mwr (D1_held_b16) (E.held) (E_held_k), grow 80 RWr hh_ (E.pend) (E_pend_a) (E_pend_c)]) (L := L) hS41 Tryz.call12 rfl (store_Commit (T) (S1_b12) (T_files_a) (T_files_c) (E) (D1_b15) (D1_held_b16) (E_held_k) (E_pend_a) (E_pend_c) ([{ name := ([97] : Str), text := u : File }]) (some ⟨b36, 0, none⟩) (1) hnb_ hpb_ (by simp) (by intro x hx; rw [List.mem_singleton] at hx; subst hx; exact ⟨by simp, by dsimp only; omega⟩) hgb_) hs37 ?_
            intro A42 v43 w39 hp44 hS38
            obtain ⟨S_files_a145, S_files_c146, D_held_k147, D_pend_a148, D_pend_c149, rfl, rfl⟩ := hp44
            have hS38 : St Γ h34 (row (S1_b12) [.pointer (some ⟨D1_b15, 0, none⟩), .int .i64 (((comS E T ([{ name := ([97] : Str), text := u : File }])).2.1).g0), .int .i64 (((comS E T ([{ name := ([97] : Str), text := u : File }])).2.1).z0), .int .i64 (((comS E T ([{ name := ([97] : Str), text := u : File }])).2.1).g1), .int .i64 (((comS E T ([{ name := ([97] : Str), text := u : File }])).2.1).z1), .slice (S_files_a145) (((comS E T ([{ name := ([97] : Str), text := u : File }])).2.1).files).length (S_files_c146)] 60 :: grow 29 RFile h34 (((comS E T ([{ name := ([97] : Str), text := u : File }])).2.1).files) (S_files_a145) (S_files_c146) :: row (D1_b15) [.bool (((comS E T ([{ name := ([97] : Str), text := u : File }])).1).is), .int .i64 (((comS E T ([{ name := ([97] : Str), text := u : File }])).1).left), .int .i64 (((comS E T ([{ name := ([97] : Str), text := u : File }])).1).n), .map (some (D1_held_b16)), .slice (D_pend_a148) (((comS E T ([{ name := ([97] : Str), text := u : File }])).1).pend).length (D_pend_c149)] 78 :: mpG Mwr (D1_held_b16) (((comS E T ([{ name := ([97] : Str), text := u : File }])).1).held) (D_held_k147) :: grow 80 RWr h34 (((comS E T ([{ name := ([97] : Str), text := u : File }])).1).pend) (D_pend_a148) (D_pend_c149) :: L) w39 := hS38
            refine WL.val1 (R_assign (v := .int .i64 ((comS E T ([{ name := ([97] : Str), text := u : File }])).2.2)) rfl) ?_
            refine WL.nil ?_
            refine then_normal ?_
            refine WC.seq ?_
            refine WC.seq ?_
            by_cases he_ : ((comS E T ([{ name := ([97] : Str), text := u : File }])).2.2) = 0
            · skip
              have hsf_ := hc_.2.2.1 he_
              refine WC.region ?_
              refine WL.val1 (R_move (v := .int .i64 ((comS E T ([{ name := ([97] : Str), text := u : File }])).2.2)) rfl) ?_
              refine WL.val1 (R_move (v := .slice (some ⟨b36, 0, none⟩) 1 (1)) rfl) ?_
              refine WL.val1 (R_move (v := .int .i64 ((1 + ((v5 : Nat) : Int)))) rfl) ?_
              refine S_callP (vs := [.slice (some ⟨b36, 0, none⟩) 1 (1), .int .i64 ((1 + ((v5 : Nat) : Int)))]) hS38 Tryz.call13 rfl (ref05_May ([{ name := ([97] : Str), text := u : File }]) (some ⟨b36, 0, none⟩) (1) ((1 + ((v5 : Nat) : Int))) (by omega) (by simp) (by intro x hx; rw [List.mem_singleton] at hx; subst hx; exact ⟨by simp, by dsimp only; omega⟩)) hs37 ?_
              intro w51 hS50
              refine WL.val1 (R_cast (R_neq (a := (comS E T ([{ name := ([97] : Str), text := u : File }])).2.2) (b := (mayD ([{ name := ([97] : Str), text := u : File }]) ((1 + ((v5 : Nat) : Int))))) rfl rfl) (bool_false (by exact decide_eq_false (fun h_ => h_ hc_.2.1)))) ?_
              refine WL.val1 (R_move (v := .bool (false)) rfl) ?_
              refine WL_unguard (yl_eq (d := 74) rfl rfl) ?_
              refine WL.val1 (R_move (v := .int .i64 ((comS E T ([{ name := ([97] : Str), text := u : File }])).2.2)) rfl) ?_
              refine WL_unguard (yl_eq (d := 74) rfl rfl) ?_
              refine WL.val1 (R_cast (R_eql (a := (comS E T ([{ name := ([97] : Str), text := u : File }])).2.2) (b := 0) rfl rfl) (bool_true (by exact decide_eq_true he_))) ?_
              refine WL_unguard (yl_eq (d := 74) rfl rfl) ?_
              refine WL.val1 (R_move (v := .bool (true)) rfl) ?_
              refine WL_unguard (yl_eq (d := 77) rfl rfl) ?_
              refine WL.val1 (R_move (v := .pointer (some ⟨S1_b12, 0, none⟩)) rfl) ?_
              refine WL_unguard (yl_eq (d := 77) rfl rfl) ?_
              refine S_callH (vs := [.pointer (some ⟨S1_b12, 0, none⟩)]) (A := fun hh_ => [row (S1_b12) [.pointer (some ⟨D1_b15, 0, none⟩), .int .i64 (((comS E T ([{ name := ([97] : Str), text := u : File }])).2.1).g0), .int .i64 (((comS E T ([{ name := ([97] : Str), text := u : File }])).2.1).z0), .int .i64 (((comS E T ([{ name := ([97] : Str), text := u : File }])).2.1).g1), .int .i64 (((comS E T ([{ name := ([97] : Str), text := u : File }])).2.1).z1), .slice (S_files_a145) (((comS E T ([{ name := ([97] : Str), text := u : File }])).2.1).files).length (S_files_c146)] 60, grow 29 RFile hh_ (((comS E T ([{ name := ([97] : Str), text := u : File }])).2.1).files) (S_files_a145) (S_files_c146), row (D1_b15) [.bool (((comS E T ([{ name := ([97] : Str), text := u : File }])).1).is), .int .i64 (((comS E T ([{ name := ([97] : Str), text := u : File }])).1).left), .int .i64 (((comS E T ([{ name := ([97] : Str), text := u : File }])).1).n), .map (some (D1_held_b16)), .slice (D_pend_a148) (((comS E T ([{ name := ([97] : Str), text := u : File }])).1).pend).length (D_pend_c149)] 78, mpG Mwr (D1_held_b16) (((comS E T ([{ name := ([97] : Str), text := u : File }])).1).held) (D_held_k147), grow 80 RWr hh_ (((comS E T ([{ name := ([97] : Str), text := u : File }])).1).pend) (D_pend_a148) (D_pend_c149)]) (L := L) hS50 Tryz.call15 rfl (store_Load ((comS E T ([{ name := ([97] : Str), text := u : File }])).2.1) (S1_b12) (S_files_a145) (S_files_c146) ((comS E T ([{ name := ([97] : Str), text := u : File }])).1) (D1_b15) (D1_held_b16) (D_held_k147) (D_pend_a148) (D_pend_c149) hc_.1.sz) trivial ?_
              intro A54 v55 w53 hp56 hS52
              obtain ⟨r_a57, r_c58, rfl, rfl⟩ := hp56
              have hS52 : St Γ h34 (row (S1_b12) [.pointer (some ⟨D1_b15, 0, none⟩), .int .i64 (((comS E T ([{ name := ([97] : Str), text := u : File }])).2.1).g0), .int .i64 (((comS E T ([{ name := ([97] : Str), text := u : File }])).2.1).z0), .int .i64 (((comS E T ([{ name := ([97] : Str), text := u : File }])).2.1).g1), .int .i64 (((comS E T ([{ name := ([97] : Str), text := u : File }])).2.1).z1), .slice (S_files_a145) (((comS E T ([{ name := ([97] : Str), text := u : File }])).2.1).files).length (S_files_c146)] 60 :: grow 29 RFile h34 (((comS E T ([{ name := ([97] : Str), text := u : File }])).2.1).files) (S_files_a145) (S_files_c146) :: row (D1_b15) [.bool (((comS E T ([{ name := ([97] : Str), text := u : File }])).1).is), .int .i64 (((comS E T ([{ name := ([97] : Str), text := u : File }])).1).left), .int .i64 (((comS E T ([{ name := ([97] : Str), text := u : File }])).1).n), .map (some (D1_held_b16)), .slice (D_pend_a148) (((comS E T ([{ name := ([97] : Str), text := u : File }])).1).pend).length (D_pend_c149)] 78 :: mpG Mwr (D1_held_b16) (((comS E T ([{ name := ([97] : Str), text := u : File }])).1).held) (D_held_k147) :: grow 80 RWr h34 (((comS E T ([{ name := ([97] : Str), text := u : File }])).1).pend) (D_pend_a148) (D_pend_c149) :: grow 29 RFile h34 (((comS E T ([{ name := ([97] : Str), text := u : File }])).2.1).files) (r_a57) (r_c58) :: L) w53 := hS52
              refine WL_unguard (yl_eq (d := 77) rfl rfl) ?_
              refine WL.val1 (R_move (v := .slice (some ⟨b36, 0, none⟩) 1 (1)) rfl) ?_
              refine WL_unguard (yl_eq (d := 77) rfl rfl) ?_
              obtain ⟨h59, hl60, hs61, hS62, back63⟩ := hS52.lendG (i := 5) rfl (Hp.le_refl _)
              refine S_callP (vs := [.slice (r_a57) (((comS E T ([{ name := ([97] : Str), text := u : File }])).2.1).files).length (r_c58), .slice (some ⟨b36, 0, none⟩) 1 (1)]) hS62 Tryz.call14 rfl (law_Same (((comS E T ([{ name := ([97] : Str), text := u : File }])).2.1).files) (r_a57) (r_c58) ([{ name := ([97] : Str), text := u : File }]) (some ⟨b36, 0, none⟩) (1) (by have := hc_.1.sz; omega)) ⟨hs61, (hs37.mono hl60)⟩ ?_
              intro w65 hS64
              have hS66 := back63 _ 5 _ rfl hS64
              have hS67 : St Γ h34 (row (S1_b12) [.pointer (some ⟨D1_b15, 0, none⟩), .int .i64 (((comS E T ([{ name := ([97] : Str), text := u : File }])).2.1).g0), .int .i64 (((comS E T ([{ name := ([97] : Str), text := u : File }])).2.1).z0), .int .i64 (((comS E T ([{ name := ([97] : Str), text := u : File }])).2.1).g1), .int .i64 (((comS E T ([{ name := ([97] : Str), text := u : File }])).2.1).z1), .slice (S_files_a145) (((comS E T ([{ name := ([97] : Str), text := u : File }])).2.1).files).length (S_files_c146)] 60 :: grow 29 RFile h34 (((comS E T ([{ name := ([97] : Str), text := u : File }])).2.1).files) (S_files_a145) (S_files_c146) :: row (D1_b15) [.bool (((comS E T ([{ name := ([97] : Str), text := u : File }])).1).is), .int .i64 (((comS E T ([{ name := ([97] : Str), text := u : File }])).1).left), .int .i64 (((comS E T ([{ name := ([97] : Str), text := u : File }])).1).n), .map (some (D1_held_b16)), .slice (D_pend_a148) (((comS E T ([{ name := ([97] : Str), text := u : File }])).1).pend).length (D_pend_c149)] 78 :: mpG Mwr (D1_held_b16) (((comS E T ([{ name := ([97] : Str), text := u : File }])).1).held) (D_held_k147) :: grow 80 RWr h34 (((comS E T ([{ name := ([97] : Str), text := u : File }])).1).pend) (D_pend_a148) (D_pend_c149) :: grow 29 RFile h34 (((comS E T ([{ name := ([97] : Str), text := u : File }])).2.1).files) (r_a57) (r_c58) :: L) w65 := hS66
              refine WL_unguard (yl_eq (d := 77) rfl rfl) ?_
              refine WL.val1 (R_cast (R_not (b := decide ((((comS E T ([{ name := ([97] : Str), text := u : File }])).2.1).files) = ([{ name := ([97] : Str), text := u : File }]))) rfl) (bool_false (by simp [hsf_]))) ?_
              refine WL_unguard (yl_eq (d := 74) rfl rfl) ?_
              refine WL.val1 (R_pick (cb := true) (v := .bool (false)) rfl (fun _ => rfl) (fun h => by cases h)) ?_
              refine WL.val1 (R_pick (cb := false) (v := .bool (false)) rfl (fun h => by cases h) (fun _ => rfl)) ?_
              refine WL.nil ?_
              refine then_normal ?_
              refine WC.condF rfl ?_
              refine WC.skip ?_
              refine then_normal ?_
              refine WC.region ?_
              refine WL.val1 (R_move (v := .string (B (u))) rfl) ?_
              refine WL.val1 (R_sadd (a := u) (b := ([121] : Str)) rfl rfl (by (try simp only [List.length_append, List.length_cons, List.length_nil]); omega)) ?_
              refine WL.val1 (R_assign (v := .string (B ((u ++ ([121] : Str))))) rfl) ?_
              refine WL.nil ?_
              refine block_normal ?_
              refine then_normal ?_
              refine WC.region ?_
              refine WL.val1 (R_move (v := .int .i64 (((i : Nat) : Int))) rfl) ?_
              refine WL.val1 (R_add_i (a := ((i : Nat) : Int)) (b := 1) rfl rfl (by omega)) ?_
              refine WL.val1 (R_assign (v := .int .i64 ((((i : Nat) : Int) + 1))) rfl) ?_
              refine WL.nil ?_
              refine then_normal ?_
              have hS68 : St Γ h34 (row (S1_b12) [.pointer (some ⟨D1_b15, 0, none⟩), .int .i64 (((comS E T ([{ name := ([97] : Str), text := u : File }])).2.1).g0), .int .i64 (((comS E T ([{ name := ([97] : Str), text := u : File }])).2.1).z0), .int .i64 (((comS E T ([{ name := ([97] : Str), text := u : File }])).2.1).g1), .int .i64 (((comS E T ([{ name := ([97] : Str), text := u : File }])).2.1).z1), .slice (S_files_a145) (((comS E T ([{ name := ([97] : Str), text := u : File }])).2.1).files).length (S_files_c146)] 60 :: grow 29 RFile h34 (((comS E T ([{ name := ([97] : Str), text := u : File }])).2.1).files) (S_files_a145) (S_files_c146) :: row (D1_b15) [.bool (((comS E T ([{ name := ([97] : Str), text := u : File }])).1).is), .int .i64 (((comS E T ([{ name := ([97] : Str), text := u : File }])).1).left), .int .i64 (((comS E T ([{ name := ([97] : Str), text := u : File }])).1).n), .map (some (D1_held_b16)), .slice (D_pend_a148) (((comS E T ([{ name := ([97] : Str), text := u : File }])).1).pend).length (D_pend_c149)] 78 :: mpG Mwr (D1_held_b16) (((comS E T ([{ name := ([97] : Str), text := u : File }])).1).held) (D_held_k147) :: grow 80 RWr h34 (((comS E T ([{ name := ([97] : Str), text := u : File }])).1).pend) (D_pend_a148) (D_pend_c149) :: L) w65 := ((((((hS67.move (i := 4) rfl).move (i := 4) rfl).move (i := 4) rfl).move (i := 4) rfl).move (i := 4) rfl).remove 5)
              exact ⟨(i + 1, (u ++ ([121] : Str)), (comS E T ([{ name := ([97] : Str), text := u : File }])).2.1, S_files_a145, S_files_c146, (comS E T ([{ name := ([97] : Str), text := u : File }])).1, (D_held_k147), D_pend_a148, D_pend_c149), ⟨rfl, rfl, (by first | rfl | (apply congrArg (Value.int .i64); omega) | simp), (by first | rfl | (apply congrArg (Value.int .i64); omega) | simp), trivial⟩, ⟨h34, (hl30.trans hl35), hS68, (by (try dsimp only); rw [List.length_append]; simp; omega), (by (try dsimp only); exact hc_.1)⟩, (by first | (simp only []; omega) | (simp; omega))⟩
            · skip
              refine WC.region ?_
              refine WL.val1 (R_move (v := .int .i64 ((comS E T ([{ name := ([97] : Str), text := u : File }])).2.2)) rfl) ?_
              refine WL.val1 (R_move (v := .slice (some ⟨b36, 0, none⟩) 1 (1)) rfl) ?_
              refine WL.val1 (R_move (v := .int .i64 ((1 + ((v5 : Nat) : Int)))) rfl) ?_
              refine S_callP (vs := [.slice (some ⟨b36, 0, none⟩) 1 (1), .int .i64 ((1 + ((v5 : Nat) : Int)))]) hS38 Tryz.call13 rfl (ref05_May ([{ name := ([97] : Str), text := u : File }]) (some ⟨b36, 0, none⟩) (1) ((1 + ((v5 : Nat) : Int))) (by omega) (by simp) (by intro x hx; rw [List.mem_singleton] at hx; subst hx; exact ⟨by simp, by dsimp only; omega⟩)) hs37 ?_
              intro w70 hS69
              refine WL.val1 (R_cast (R_neq (a := (comS E T ([{ name := ([97] : Str), text := u : File }])).2.2) (b := (mayD ([{ name := ([97] : Str), text := u : File }]) ((1 + ((v5 : Nat) : Int))))) rfl rfl) (bool_false (by exact decide_eq_false (fun h_ => h_ hc_.2.1)))) ?_
              refine WL.val1 (R_move (v := .bool (false)) rfl) ?_
              refine WL_unguard (yl_eq (d := 74) rfl rfl) ?_
              refine WL.val1 (R_move (v := .int .i64 ((comS E T ([{ name := ([97] : Str), text := u : File }])).2.2)) rfl) ?_
              refine WL_unguard (yl_eq (d := 74) rfl rfl) ?_
              refine WL.val1 (R_cast (R_eql (a := (comS E T ([{ name := ([97] : Str), text := u : File }])).2.2) (b := 0) rfl rfl) (bool_false (by exact decide_eq_false he_))) ?_
              refine WL_unguard (yl_eq (d := 74) rfl rfl) ?_
              refine WL.val1 (R_move (v := .bool (false)) rfl) ?_
              refine WL.skip (.inl (yl_eq (d := 77) rfl rfl)) ?_
              refine WL.skip (.inl (yl_eq (d := 77) rfl rfl)) ?_
              refine WL.skip (.inl (yl_eq (d := 77) rfl rfl)) ?_
              refine WL.skip (.inl (yl_eq (d := 77) rfl rfl)) ?_
              refine WL.skip (.inl (yl_eq (d := 77) rfl rfl)) ?_
              refine WL_unguard (yl_eq (d := 74) rfl rfl) ?_
              refine WL.val1 (R_pick (cb := false) (v := .bool (false)) rfl (fun h => by cases h) (fun _ => rfl)) ?_
              refine WL.val1 (R_pick (cb := false) (v := .bool (false)) rfl (fun h => by cases h) (fun _ => rfl)) ?_
              refine WL.nil ?_
              refine then_normal ?_
              refine WC.condF rfl ?_
              refine WC.skip ?_
              refine then_normal ?_
              refine WC.region ?_
              refine WL.val1 (R_move (v := .string (B (u))) rfl) ?_
              refine WL.val1 (R_sadd (a := u) (b := ([121] : Str)) rfl rfl (by (try simp only [List.length_append, List.length_cons, List.length_nil]); omega)) ?_
              refine WL.val1 (R_assign (v := .string (B ((u ++ ([121] : Str))))) rfl) ?_
              refine WL.nil ?_
              refine block_normal ?_
              refine then_normal ?_
              refine WC.region ?_
              refine WL.val1 (R_move (v := .int .i64 (((i : Nat) : Int))) rfl) ?_
              refine WL.val1 (R_add_i (a := ((i : Nat) : Int)) (b := 1) rfl rfl (by omega)) ?_
              refine WL.val1 (R_assign (v := .int .i64 ((((i : Nat) : Int) + 1))) rfl) ?_
              refine WL.nil ?_
              refine then_normal ?_
              exact ⟨(i + 1, (u ++ ([121] : Str)), (comS E T ([{ name := ([97] : Str), text := u : File }])).2.1, S_files_a145, S_files_c146, (comS E T ([{ name := ([97] : Str), text := u : File }])).1, (D_held_k147), D_pend_a148, D_pend_c149), ⟨rfl, rfl, (by first | rfl | (apply congrArg (Value.int .i64); omega) | simp), (by first | rfl | (apply congrArg (Value.int .i64); omega) | simp), trivial⟩, ⟨h34, (hl30.trans hl35), hS69, (by (try dsimp only); rw [List.length_append]; simp; omega), (by (try dsimp only); exact hc_.1)⟩, (by first | (simp only []; omega) | (simp; omega))⟩
          · skip
            refine WC.exit ?_
            refine then_exit ?_
            refine then_exit ?_
            refine block_exit ?_
            refine then_normal ?_
            refine WC.seq ?_
            refine WC.region ?_
            refine S_callP (vs := []) hS27 Tryz.call11 rfl law_fixed trivial ?_
            intro w72 hS71
            refine WL.val1 (R_assign (v := .bool (true)) rfl) ?_
            refine WL.nil ?_
            refine then_normal ?_
            refine WC.ret ?_
            refine top_ret (.bool (true)) (gives1 rfl rfl) ?_
            exact ⟨(by rfl), (hS71.pop.pop.pop.pop.pop.weaken_h (hl23.trans hl30))⟩
  · skip
    refine WC.region ?_
    refine WL.val1 (R_move (v := .int .i64 ((1 + ((v5 : Nat) : Int)))) rfl) ?_
    refine S_callH (vs := [.int .i64 ((1 + ((v5 : Nat) : Int)))]) (A := fun hh_ => []) (L := L) hS3 Tryz.call10 rfl (law_OnNo ((1 + ((v5 : Nat) : Int))) (by first | assumption | omega)) trivial ?_
    intro A75 v76 w74 hp77 hS73
    obtain ⟨D1_b78, D1_held_b79, D1_held_k80, D1_pend_a81, D1_pend_c82, rfl, rfl⟩ := hp77
    have hS73 : St Γ h (row (D1_b78) [.bool ((newD ((1 + ((v5 : Nat) : Int)))).is), .int .i64 ((newD ((1 + ((v5 : Nat) : Int)))).left), .int .i64 ((newD ((1 + ((v5 : Nat) : Int)))).n), .map (some (D1_held_b79)), .slice (D1_pend_a81) ((newD ((1 + ((v5 : Nat) : Int)))).pend).length (D1_pend_c82)] 78 :: mpG Mwr (D1_held_b79) ((newD ((1 + ((v5 : Nat) : Int)))).held) (D1_held_k80) :: grow 80 RWr h ((newD ((1 + ((v5 : Nat) : Int)))).pend) (D1_pend_a81) (D1_pend_c82) :: L) w74 := hS73
    refine WL.val1 (R_move (v := .tuple #[.pointer none, .pointer (some ⟨D1_b78, 0, none⟩)]) rfl) ?_
    refine WL.val1 (R_extract (vs := ([.pointer none, .pointer (some ⟨D1_b78, 0, none⟩)] : List Value).toArray) (v := .pointer none) rfl rfl) ?_
    refine WL.val1 (R_extract (vs := ([.pointer none, .pointer (some ⟨D1_b78, 0, none⟩)] : List Value).toArray) (v := .pointer (some ⟨D1_b78, 0, none⟩)) rfl rfl) ?_
    refine WL.val1 (R_assign (v := .pointer none) rfl) ?_
    refine WL.val1 (R_assign (v := .pointer (some ⟨D1_b78, 0, none⟩)) rfl) ?_
    refine WL.nil ?_
    refine then_normal ?_
    refine WC.seq ?_
    refine WC.seq ?_
    refine WC.region ?_
    refine WL.val1 (R_move (v := .int .i64 ((1 + ((v5 : Nat) : Int)))) rfl) ?_
    refine WL.val1 (R_cast (R_lss (a := (1 + ((v5 : Nat) : Int))) (b := 4) rfl rfl) (bool_true (by exact decide_eq_true (by omega)))) ?_
    refine WL.nil ?_
    refine then_normal ?_
    refine WC.condT rfl ?_
    refine WC.seq ?_
    refine WC.region ?_
    refine WL.val1 (R_move (v := .pointer none) rfl) ?_
    refine WL.val1 (R_nilEql rfl rfl Tryz.underlying23) ?_
    refine WL.val1 (R_move (v := .bool (true)) rfl) ?_
    refine WL_unguard (yl_eq (d := 28) rfl rfl) ?_
    refine WL.val1 (R_move (v := .pointer (some ⟨D1_b78, 0, none⟩)) rfl) ?_
    refine WL_unguard (yl_eq (d := 28) rfl rfl) ?_
    refine WL.val1 (R_ptrNeq rfl rfl Tryz.underlying24) ?_
    refine WL.val1 (R_pick (cb := true) (v := .bool (true)) rfl (fun _ => rfl) (fun h => by cases h)) ?_
    refine WL.val1 (R_move (v := .bool (true)) rfl) ?_
    refine WL_unguard (yl_eq (d := 32) rfl rfl) ?_
    refine S_callP (vs := []) hS73 Tryz.call11 rfl law_fixed trivial ?_
    intro w84 hS83
    refine WL.val1 (R_pick (cb := true) (v := .bool (true)) rfl (fun _ => rfl) (fun h => by cases h)) ?_
    refine WL.val1 (R_assign (v := .bool (true)) rfl) ?_
    refine WL.nil ?_
    refine then_normal ?_
    refine WC.ret ?_
    refine then_ret ?_
    refine top_ret (.bool (true)) (gives1 rfl rfl) ?_
    exact ⟨(by rfl), hS83.pop.pop.pop⟩
end Go.Stet
