/- What the layers compute, in plain Lean, and laws about that. Each under the conditions that its own statement names. -/
import Derived.Test.YtcnhcckbdmjdiaaGreatDoorSeatS3
import Derived.Test.YtcnhcckbdmjdiaaGreatDoorBldS
import Derived.Test.YtcnhcckbdmjdiaaGreatDoorEng18
import Derived.Test.YtcnhcckbdmjdiaaGreatDoorSpecS1
import Derived.Test.YtcnhcckbdmjdiaaGreatDoorSpecS4
import Derived.Test.YtcnhcckbdmjdiaaGreatDoorEng19
import Derived.Test.YtcnhcckbdmjdiaaGreatDoorS10
set_option linter.all false
set_option linter.unusedSimpArgs false
set_option linter.unusedVariables false
namespace Go.Stet
open Go Go.Eng Go.Proofs
set_option maxHeartbeats 1000000 in
theorem law_StoreOwn (l : List File) (l_a : Option Addr) (l_c : Nat) (hbl : ∀ x ∈ l, x.name.length ≤ 9223372036854775807) : PureC GG Tryz.prog 4 (fun h => Sl RFile h l l_a l_c) [.slice (l_a) (l).length (l_c)] (.bool (true)) := by
  intro Γ h L w hpre hS
  have sl_l := hpre
  have i0_ := InvX.new (n := 40) (by decide)
  obtain ⟨D1_, S1_, e1_, i1_, f1_⟩ := com_fit i0_ (by decide) l
  have hl32_ := (rightS_le (mapS_right l 6 40)).1
  refine Ret.body Tryz.func4 rfl Tryz.ntmps4 (Nat.le_of_ble_eq_true rfl) ?_
  refine WC.seq ?_
  refine WC.region ?_
  refine WL.val1 (R_assign (v := .bool (false)) rfl) ?_
  refine WL.nil ?_
  refine then_normal ?_
  refine WC.seq ?_
  refine WC.region ?_
  refine S_callH (vs := [.int .i64 (40)]) (A := fun hh_ => []) (L := L) hS Tryz.call10 rfl (law_On (40) (by decide)) trivial ?_
  intro A3 v4 w2 hp5 hS1
  obtain ⟨S1_b6, S1_files_a7, S1_files_c8, D1_b9, D1_held_b10, D1_held_k11, D1_pend_a12, D1_pend_c13, rfl, rfl⟩ := hp5
  have hS1 : St Γ h (row (S1_b6) [.pointer (some ⟨D1_b9, 0, none⟩), .int .i64 (emptyS.g0), .int .i64 (emptyS.z0), .int .i64 (emptyS.g1), .int .i64 (emptyS.z1), .slice (S1_files_a7) (emptyS.files).length (S1_files_c8)] 60 :: grow 29 RFile h (emptyS.files) (S1_files_a7) (S1_files_c8) :: row (D1_b9) [.bool ((newD 40).is), .int .i64 ((newD 40).left), .int .i64 ((newD 40).n), .map (some (D1_held_b10)), .slice (D1_pend_a12) ((newD 40).pend).length (D1_pend_c13)] 78 :: mpG Mwr (D1_held_b10) ((newD 40).held) (D1_held_k11) :: grow 80 RWr h ((newD 40).pend) (D1_pend_a12) (D1_pend_c13) :: L) w2 := hS1
  refine WL.val1 (R_move (v := .tuple #[.pointer (some ⟨S1_b6, 0, none⟩), .pointer (some ⟨D1_b9, 0, none⟩)]) rfl) ?_
  refine WL.val1 (R_extract (vs := ([.pointer (some ⟨S1_b6, 0, none⟩), .pointer (some ⟨D1_b9, 0, none⟩)] : List Value).toArray) (v := .pointer (some ⟨S1_b6, 0, none⟩)) rfl rfl) ?_
  refine WL.val1 (R_extract (vs := ([.pointer (some ⟨S1_b6, 0, none⟩), .pointer (some ⟨D1_b9, 0, none⟩)] : List Value).toArray) (v := .pointer (some ⟨D1_b9, 0, none⟩)) rfl rfl) ?_
  refine WL.val1 (R_assign (v := .pointer (some ⟨S1_b6, 0, none⟩)) rfl) ?_
  refine WL.val1 (R_assign (v := .pointer (some ⟨D1_b9, 0, none⟩)) rfl) ?_
  refine WL.nil ?_
  refine then_normal ?_
  refine WC.seq ?_
  refine WC.seq ?_
  refine WC.region ?_
  refine WL.val1 (R_move (v := .pointer (some ⟨S1_b6, 0, none⟩)) rfl) ?_
  refine WL.val1 (R_ptrEql rfl rfl Tryz.underlying23) ?_
  refine WL.nil ?_
  refine then_normal ?_
  refine WC.condF rfl ?_
  refine WC.skip ?_
  refine then_normal ?_
  refine WC.seq ?_
  refine WC.region ?_
  refine WL.val1 (R_move (v := .slice (l_a) (l).length (l_c)) rfl) ?_
  refine S_callH (vs := [.slice (l_a) (l).length (l_c), .int .i64 (6), .int .i64 (40)]) (A := fun hh_ => []) (L := row (S1_b6) [.pointer (some ⟨D1_b9, 0, none⟩), .int .i64 (emptyS.g0), .int .i64 (emptyS.z0), .int .i64 (emptyS.g1), .int .i64 (emptyS.z1), .slice (S1_files_a7) (emptyS.files).length (S1_files_c8)] 60 :: grow 29 RFile h (emptyS.files) (S1_files_a7) (S1_files_c8) :: row (D1_b9) [.bool ((newD 40).is), .int .i64 ((newD 40).left), .int .i64 ((newD 40).n), .map (some (D1_held_b10)), .slice (D1_pend_a12) ((newD 40).pend).length (D1_pend_c13)] 78 :: mpG Mwr (D1_held_b10) ((newD 40).held) (D1_held_k11) :: grow 80 RWr h ((newD 40).pend) (D1_pend_a12) (D1_pend_c13) :: L) hS1 Tryz.call16 rfl (ref02_Map (l) (l_a) (l_c) (6) (40) (by decide) (by decide) hbl) sl_l ?_
  intro A16 v17 w15 hp18 hS14
  obtain ⟨r_a19, r_c20, rfl, rfl⟩ := hp18
  have hS14 : St Γ h (grow 29 RFile h ((mapS l 6 40)) (r_a19) (r_c20) :: row (S1_b6) [.pointer (some ⟨D1_b9, 0, none⟩), .int .i64 (emptyS.g0), .int .i64 (emptyS.z0), .int .i64 (emptyS.g1), .int .i64 (emptyS.z1), .slice (S1_files_a7) (emptyS.files).length (S1_files_c8)] 60 :: grow 29 RFile h (emptyS.files) (S1_files_a7) (S1_files_c8) :: row (D1_b9) [.bool ((newD 40).is), .int .i64 ((newD 40).left), .int .i64 ((newD 40).n), .map (some (D1_held_b10)), .slice (D1_pend_a12) ((newD 40).pend).length (D1_pend_c13)] 78 :: mpG Mwr (D1_held_b10) ((newD 40).held) (D1_held_k11) :: grow 80 RWr h ((newD 40).pend) (D1_pend_a12) (D1_pend_c13) :: L) w15 := hS14
  refine WL.val1 (R_assign (v := .slice (r_a19) ((mapS l 6 40)).length (r_c20)) rfl) ?_
  refine WL.nil ?_
  refine then_normal ?_
  refine WC.seq ?_
  refine WC.region ?_
  refine S_buildSlice0 (R := RFile) (e := 29) hS14 Tryz.underlying30 (Tryz.sizeOf29) ?_
  intro w22 hS21
  refine WL.val1 (R_move (v := .slice (r_a19) ((mapS l 6 40)).length (r_c20)) rfl) ?_
  obtain ⟨h23, hl24, hs25, hS26, back27⟩ := hS21.lendG (i := 1) rfl (Hp.le_refl _)
  refine S_append (info := Tryz.t29) (R := RFile) (xs := ([] : List File)) (ys := (mapS l 6 40)) (a := some ⟨w15.heap.size, 0, none⟩) (c := 0) 0 Tryz.underlying30 (by kernel_rfl) rfl rfl rfl (by decide) 32 rfl hS26 rfl hl24 hs25 rfl rfl (by (try simp only [List.length_append, List.length_cons, List.length_nil]); omega) (by (try simp only [List.length_append, List.length_cons, List.length_nil]); omega) ?_
  intro a28 c29 w30 hS31
  have hS32 := back27 _ 1 _ rfl hS31
  have hS33 : St Γ h (grow 29 RFile h ((([] : List File) ++ (mapS l 6 40))) (a28) (c29) :: grow 29 RFile h ((mapS l 6 40)) (r_a19) (r_c20) :: row (S1_b6) [.pointer (some ⟨D1_b9, 0, none⟩), .int .i64 (emptyS.g0), .int .i64 (emptyS.z0), .int .i64 (emptyS.g1), .int .i64 (emptyS.z1), .slice (S1_files_a7) (emptyS.files).length (S1_files_c8)] 60 :: grow 29 RFile h (emptyS.files) (S1_files_a7) (S1_files_c8) :: row (D1_b9) [.bool ((newD 40).is), .int .i64 ((newD 40).left), .int .i64 ((newD 40).n), .map (some (D1_held_b10)), .slice (D1_pend_a12) ((newD 40).pend).length (D1_pend_c13)] 78 :: mpG Mwr (D1_held_b10) ((newD 40).held) (D1_held_k11) :: grow 80 RWr h ((newD 40).pend) (D1_pend_a12) (D1_pend_c13) :: L) w30 := (hS32.growFree (i := 0) h RFile_free rfl)
  refine WL.val1 (R_assign (v := .slice (a28) ((([] : List File) ++ (mapS l 6 40))).length (c29)) rfl) ?_
  refine WL.nil ?_
  refine then_normal ?_
  refine WC.seq ?_
  refine WC.seq ?_
  refine WC.region ?_
  refine WL.val1 (R_move (v := .pointer (some ⟨S1_b6, 0, none⟩)) rfl) ?_
  refine WL.val1 (R_move (v := .slice (r_a19) ((mapS l 6 40)).length (r_c20)) rfl) ?_
  obtain ⟨h34, hl35, hs36, hS37, back38⟩ := hS33.lendG (i := 1) rfl (Hp.le_refl _)
  have hS41 := hS37.growMono (i := 0) rfl hl35
  have hS42 := hS41.growMono (i := 3) rfl hl35
  have hS43 := hS42.growMono (i := 6) rfl hl35
  have hS44 : St Γ h34 (row (S1_b6) [.pointer (some ⟨D1_b9, 0, none⟩), .int .i64 (emptyS.g0), .int .i64 (emptyS.z0), .int .i64 (emptyS.g1), .int .i64 (emptyS.z1), .slice (S1_files_a7) (emptyS.files).length (S1_files_c8)] 60 :: grow 29 RFile h34 (emptyS.files) (S1_files_a7) (S1_files_c8) :: row (D1_b9) [.bool ((newD 40).is), .int .i64 ((newD 40).left), .int .i64 ((newD 40).n), .map (some (D1_held_b10)), .slice (D1_pend_a12) ((newD 40).pend).length (D1_pend_c13)] 78 :: mpG Mwr (D1_held_b10) ((newD 40).held) (D1_held_k11) :: grow 80 RWr h34 ((newD 40).pend) (D1_pend_a12) (D1_pend_c13) :: grow 29 RFile h34 ((([] : List File) ++ (mapS l 6 40))) (a28) (c29) :: emp :: emp :: emp :: emp :: emp :: emp :: L) w30 := (((((hS43.front (i := 6) rfl).front (i := 6) rfl).front (i := 6) rfl).front (i := 6) rfl).front (i := 6) rfl)
  refine S_callH (vs := [.pointer (some ⟨S1_b6, 0, none⟩), .slice (r_a19) ((mapS l 6 40)).length (r_c20)]) (A := fun hh_ => [row (S1_b6) [.pointer (some ⟨D1_b9, 0, none⟩), .int .i64 (emptyS.g0), .int .i64 (emptyS.z0), .int .i64 (emptyS.g1), .int .i64 (emptyS.z1), .slice (S1_files_a7) (emptyS.files).length (S1_files_c8)] 60, grow 29 RFile hh_ (emptyS.files) (S1_files_a7) (S1_files_c8), row (D1_b9) [.bool ((newD 40).is), .int .i64 ((newD 40).left), .int .i64 ((newD 40).n), .map (some (D1_held_b10)), .slice (D1_pend_a12) ((newD 40).pend).length (D1_pend_c13)] 78, mpG Mwr (D1_held_b10) ((newD 40).held) (D1_held_k11), grow 80 RWr hh_ ((newD 40).pend) (D1_pend_a12) (D1_pend_c13)]) (L := grow 29 RFile h34 ((([] : List File) ++ (mapS l 6 40))) (a28) (c29) :: emp :: emp :: emp :: emp :: emp :: emp :: L) hS44 Tryz.call12 rfl (by have k_ := (store_Commit (emptyS) (S1_b6) (S1_files_a7) (S1_files_c8) (newD 40) (D1_b9) (D1_held_b10) (D1_held_k11) (D1_pend_a12) (D1_pend_c13) ((mapS l 6 40)) (r_a19) (r_c20) (i0_.nb (by decide)) i0_.pb (map_sz l 6 40).1 (map_sz l 6 40).2 (i0_.gb (by decide))); rw [e1_] at k_; exact k_) (by exact hs36) ?_
  intro A45 v46 w40 hp47 hS39
  obtain ⟨S_files_a148, S_files_c149, D_held_k150, D_pend_a151, D_pend_c152, rfl, rfl⟩ := hp47
  have hS39 : St Γ h34 (row (S1_b6) [.pointer (some ⟨D1_b9, 0, none⟩), .int .i64 (S1_.g0), .int .i64 (S1_.z0), .int .i64 (S1_.g1), .int .i64 (S1_.z1), .slice (S_files_a148) (S1_.files).length (S_files_c149)] 60 :: grow 29 RFile h34 (S1_.files) (S_files_a148) (S_files_c149) :: row (D1_b9) [.bool (D1_.is), .int .i64 (D1_.left), .int .i64 (D1_.n), .map (some (D1_held_b10)), .slice (D_pend_a151) (D1_.pend).length (D_pend_c152)] 78 :: mpG Mwr (D1_held_b10) (D1_.held) (D_held_k150) :: grow 80 RWr h34 (D1_.pend) (D_pend_a151) (D_pend_c152) :: grow 29 RFile h34 ((([] : List File) ++ (mapS l 6 40))) (a28) (c29) :: emp :: emp :: emp :: emp :: emp :: emp :: L) w40 := hS39
  have hS53 : St Γ h34 (grow 29 RFile h34 ((([] : List File) ++ (mapS l 6 40))) (a28) (c29) :: emp :: row (S1_b6) [.pointer (some ⟨D1_b9, 0, none⟩), .int .i64 (S1_.g0), .int .i64 (S1_.z0), .int .i64 (S1_.g1), .int .i64 (S1_.z1), .slice (S_files_a148) (S1_.files).length (S_files_c149)] 60 :: grow 29 RFile h34 (S1_.files) (S_files_a148) (S_files_c149) :: row (D1_b9) [.bool (D1_.is), .int .i64 (D1_.left), .int .i64 (D1_.n), .map (some (D1_held_b10)), .slice (D_pend_a151) (D1_.pend).length (D_pend_c152)] 78 :: mpG Mwr (D1_held_b10) (D1_.held) (D_held_k150) :: grow 80 RWr h34 (D1_.pend) (D_pend_a151) (D_pend_c152) :: L) w40 := (St.back2 (i := 6) (St.back2 (i := 6) (St.back2 (i := 6) (St.back2 (i := 6) (St.back2 (i := 6) hS39 rfl) rfl) rfl) rfl) rfl)
  have hS54 := back38 _ 1 _ rfl hS53
  have hS55 : St Γ h (grow 29 RFile h ((([] : List File) ++ (mapS l 6 40))) (a28) (c29) :: grow 29 RFile h ((mapS l 6 40)) (r_a19) (r_c20) :: row (S1_b6) [.pointer (some ⟨D1_b9, 0, none⟩), .int .i64 (S1_.g0), .int .i64 (S1_.z0), .int .i64 (S1_.g1), .int .i64 (S1_.z1), .slice (S_files_a148) (S1_.files).length (S_files_c149)] 60 :: grow 29 RFile h (S1_.files) (S_files_a148) (S_files_c149) :: row (D1_b9) [.bool (D1_.is), .int .i64 (D1_.left), .int .i64 (D1_.n), .map (some (D1_held_b10)), .slice (D_pend_a151) (D1_.pend).length (D_pend_c152)] 78 :: mpG Mwr (D1_held_b10) (D1_.held) (D_held_k150) :: grow 80 RWr h (D1_.pend) (D_pend_a151) (D_pend_c152) :: L) w40 := (((hS54.growFree (i := 0) h RFile_free rfl).growFree (i := 3) h RFile_free rfl).growFree (i := 6) h RWr_free rfl)
  refine WL.val1 (R_cast (R_neq (a := 0) (b := 0) rfl rfl) (bool_false (by decide))) ?_
  refine WL.nil ?_
  refine then_normal ?_
  refine WC.condF rfl ?_
  refine WC.skip ?_
  refine then_normal ?_
  refine WC.seq ?_
  refine WC.seq ?_
  refine WC.region ?_
  refine WL.val1 (R_assign (v := .int .i64 (0)) rfl) ?_
  refine WL.nil ?_
  refine then_normal ?_
  refine WC.block ?_
  refine WC.loopL (σ := Nat × (List File) × (Option Addr) × Nat)
    (fun (q_ : Nat × (List File) × (Option Addr) × Nat) => (fun (i : Nat) (u : List File) (u_a : Option Addr) (u_c : Nat) => [(3, .pointer (some ⟨S1_b6, 0, none⟩)), (5, .slice (u_a) (u).length (u_c)), (6, .slice (a28) ((([] : List File) ++ (mapS l 6 40))).length (c29)), (7, .int .i64 (((i : Nat) : Int)))]) (q_.1) (q_.2.1) (q_.2.2.1) (q_.2.2.2))
    (fun (q_ : Nat × (List File) × (Option Addr) × Nat) (w_ : World) => (fun (i : Nat) (u : List File) (u_a : Option Addr) (u_c : Nat) => ∃ h58 : Hp, h.le h58 ∧ St Γ h58 (grow 29 RFile h58 ((([] : List File) ++ (mapS l 6 40))) (a28) (c29) :: grow 29 RFile h58 (u) (u_a) (u_c) :: row (S1_b6) [.pointer (some ⟨D1_b9, 0, none⟩), .int .i64 (S1_.g0), .int .i64 (S1_.z0), .int .i64 (S1_.g1), .int .i64 (S1_.z1), .slice (S_files_a148) (S1_.files).length (S_files_c149)] 60 :: grow 29 RFile h58 (S1_.files) (S_files_a148) (S_files_c149) :: row (D1_b9) [.bool (D1_.is), .int .i64 (D1_.left), .int .i64 (D1_.n), .map (some (D1_held_b10)), .slice (D_pend_a151) (D1_.pend).length (D_pend_c152)] 78 :: mpG Mwr (D1_held_b10) (D1_.held) (D_held_k150) :: grow 80 RWr h58 (D1_.pend) (D_pend_a151) (D_pend_c152) :: L) w_ ∧ (u.length ≤ 1000) ∧ (i ≤ u.length)) (q_.1) (q_.2.1) (q_.2.2.1) (q_.2.2.2))
    (fun (q_ : Nat × (List File) × (Option Addr) × Nat) => (fun (i : Nat) (u : List File) (u_a : Option Addr) (u_c : Nat) => u.length - i) (q_.1) (q_.2.1) (q_.2.2.1) (q_.2.2.2)) (0, (mapS l 6 40), r_a19, r_c20) ?_ ?_ ?_
  · exact ⟨rfl, (by first | rfl | exact congrArg (fun n_ => Value.slice u_a n_ u_c) (List.length_set).symm), rfl, (by first | rfl | (apply congrArg (Value.int .i64); omega) | simp), trivial⟩
  · exact ⟨h, Hp.le_refl _, hS55, (by dsimp only; have := (rightS_le (mapS_right l 6 40)).1; (try rw [f1_]); omega), (by exact Nat.zero_le _)⟩
  · rintro ⟨i, u, u_a, u_c⟩ r60 w57 ⟨h58, hl59, hS56, g1, g1i⟩
    try dsimp only at g1 g1i
    refine WC.seq ?_
    refine WC.seq ?_
    refine WC.region ?_
    refine WL.val1 (R_move (v := .int .i64 (((i : Nat) : Int))) rfl) ?_
    refine WL.val1 (R_move (v := .slice (u_a) (u).length (u_c)) rfl) ?_
    refine WL.val1 (R_len_slice (n := (u).length) rfl Tryz.underlying30) ?_
    refine WL.val1 (R_lss (a := ((i : Nat) : Int)) (b := (((u).length : Nat) : Int)) rfl rfl) ?_
    refine WL.nil ?_
    refine then_normal ?_
    refine WC.condP (((i : Nat) : Int) < (((u).length : Nat) : Int)) rfl (fun c2 => ?_) (fun c2 => ?_)
    · skip
      refine WC.skip ?_
      refine then_normal ?_
      refine WC.seq ?_
      refine WC.block ?_
      refine WC.region ?_
      refine WL.val1 (R_move (v := .slice (u_a) (u).length (u_c)) rfl) ?_
      refine WL.val1 (R_move (v := .int .i64 (((i : Nat) : Int))) rfl) ?_
      obtain ⟨z63, hz64⟩ : ∃ z, (u)[i]? = some z := ⟨_, List.getElem?_eq_getElem (by omega)⟩
      obtain ⟨b61, cu65, cs66, hb62, hr67, hh68, hc69⟩ := hS56.growAt (i := 1) (m := i) (z := z63) rfl hz64
      subst hr67
      refine WL.val1 (R_indexAddrE (i := ((i : Nat) : Int)) (m := i) hb62 rfl rfl Tryz.underlying30 (Tryz.sizeOf29 _) (by first | rfl | (omega)) (by omega)) ?_
      refine WL.val1 (R_fieldAddr (b := b61) (off := (0 + i * 2)) (m := 1) rfl (fun _ => by kernel_rfl)) ?_
      refine S_storeF (R := RFile) (i := 1) (m := i) (j := 1) (vs := [.string (B (([116, 117, 114, 110, 101, 100] : Str)))]) (z := z63) (z' := { z63 with text := ([116, 117, 114, 110, 101, 100] : Str) }) hS56 rfl hb62 hz64 rfl (by show 0 + i * 2 + 1 = i * 2 + 1; omega) rfl rfl rfl rfl (by decide) (fun cs_ h_ => by subst h_; rfl) Tryz.sizeOf9 rfl ?_
      intro w71 hS70
      refine WL.nil ?_
      refine block_normal ?_
      refine then_normal ?_
      refine WC.region ?_
      refine WL.val1 (R_move (v := .int .i64 (((i : Nat) : Int))) rfl) ?_
      refine WL.val1 (R_add_i (a := ((i : Nat) : Int)) (b := 1) rfl rfl (by omega)) ?_
      refine WL.val1 (R_assign (v := .int .i64 ((((i : Nat) : Int) + 1))) rfl) ?_
      refine WL.nil ?_
      refine then_normal ?_
      exact ⟨(i + 1, (u.set i { z63 with text := ([116, 117, 114, 110, 101, 100] : Str) }), u_a, u_c), ⟨rfl, (by first | rfl | exact congrArg (fun n_ => Value.slice u_a n_ u_c) (List.length_set).symm), rfl, (by first | rfl | (apply congrArg (Value.int .i64); omega) | simp), trivial⟩, ⟨h58, hl59, hS70, (by (try dsimp only); rw [List.length_set]; assumption), (by (try dsimp only); rw [List.length_set]; omega)⟩, (by (try simp only []); rw [List.length_set]; omega)⟩
    · skip
      refine WC.exit ?_
      refine then_exit ?_
      refine then_exit ?_
      refine block_exit ?_
      refine then_normal ?_
      refine WC.seq ?_
      refine WC.region ?_
      refine WL.val1 (R_move (v := .pointer (some ⟨S1_b6, 0, none⟩)) rfl) ?_
      have hS74 : St Γ h58 (row (S1_b6) [.pointer (some ⟨D1_b9, 0, none⟩), .int .i64 (S1_.g0), .int .i64 (S1_.z0), .int .i64 (S1_.g1), .int .i64 (S1_.z1), .slice (S_files_a148) (S1_.files).length (S_files_c149)] 60 :: grow 29 RFile h58 (S1_.files) (S_files_a148) (S_files_c149) :: row (D1_b9) [.bool (D1_.is), .int .i64 (D1_.left), .int .i64 (D1_.n), .map (some (D1_held_b10)), .slice (D_pend_a151) (D1_.pend).length (D_pend_c152)] 78 :: mpG Mwr (D1_held_b10) (D1_.held) (D_held_k150) :: grow 80 RWr h58 (D1_.pend) (D_pend_a151) (D_pend_c152) :: grow 29 RFile h58 ((([] : List File) ++ (mapS l 6 40))) (a28) (c29) :: grow 29 RFile h58 (u) (u_a) (u_c) :: emp :: emp :: emp :: emp :: emp :: L) w57 := (((((hS56.front (i := 6) rfl).front (i := 6) rfl).front (i := 6) rfl).front (i := 6) rfl).front (i := 6) rfl)
      refine S_callH (vs := [.pointer (some ⟨S1_b6, 0, none⟩)]) (A := fun hh_ => [row (S1_b6) [.pointer (some ⟨D1_b9, 0, none⟩), .int .i64 (S1_.g0), .int .i64 (S1_.z0), .int .i64 (S1_.g1), .int .i64 (S1_.z1), .slice (S_files_a148) (S1_.files).length (S_files_c149)] 60, grow 29 RFile hh_ (S1_.files) (S_files_a148) (S_files_c149), row (D1_b9) [.bool (D1_.is), .int .i64 (D1_.left), .int .i64 (D1_.n), .map (some (D1_held_b10)), .slice (D_pend_a151) (D1_.pend).length (D_pend_c152)] 78, mpG Mwr (D1_held_b10) (D1_.held) (D_held_k150), grow 80 RWr hh_ (D1_.pend) (D_pend_a151) (D_pend_c152)]) (L := grow 29 RFile h58 ((([] : List File) ++ (mapS l 6 40))) (a28) (c29) :: grow 29 RFile h58 (u) (u_a) (u_c) :: emp :: emp :: emp :: emp :: emp :: L) hS74 Tryz.call15 rfl (store_Load (S1_) (S1_b6) (S_files_a148) (S_files_c149) (D1_) (D1_b9) (D1_held_b10) (D_held_k150) (D_pend_a151) (D_pend_c152) i1_.sz) trivial ?_
      intro A75 v76 w73 hp77 hS72
      obtain ⟨r_a78, r_c79, rfl, rfl⟩ := hp77
      have hS72 : St Γ h58 (row (S1_b6) [.pointer (some ⟨D1_b9, 0, none⟩), .int .i64 (S1_.g0), .int .i64 (S1_.z0), .int .i64 (S1_.g1), .int .i64 (S1_.z1), .slice (S_files_a148) (S1_.files).length (S_files_c149)] 60 :: grow 29 RFile h58 (S1_.files) (S_files_a148) (S_files_c149) :: row (D1_b9) [.bool (D1_.is), .int .i64 (D1_.left), .int .i64 (D1_.n), .map (some (D1_held_b10)), .slice (D_pend_a151) (D1_.pend).length (D_pend_c152)] 78 :: mpG Mwr (D1_held_b10) (D1_.held) (D_held_k150) :: grow 80 RWr h58 (D1_.pend) (D_pend_a151) (D_pend_c152) :: grow 29 RFile h58 (S1_.files) (r_a78) (r_c79) :: grow 29 RFile h58 ((([] : List File) ++ (mapS l 6 40))) (a28) (c29) :: grow 29 RFile h58 (u) (u_a) (u_c) :: emp :: emp :: emp :: emp :: emp :: L) w73 := hS72
      have hS80 : St Γ h58 (grow 29 RFile h58 (S1_.files) (r_a78) (r_c79) :: grow 29 RFile h58 ((([] : List File) ++ (mapS l 6 40))) (a28) (c29) :: grow 29 RFile h58 (u) (u_a) (u_c) :: row (S1_b6) [.pointer (some ⟨D1_b9, 0, none⟩), .int .i64 (S1_.g0), .int .i64 (S1_.z0), .int .i64 (S1_.g1), .int .i64 (S1_.z1), .slice (S_files_a148) (S1_.files).length (S_files_c149)] 60 :: grow 29 RFile h58 (S1_.files) (S_files_a148) (S_files_c149) :: row (D1_b9) [.bool (D1_.is), .int .i64 (D1_.left), .int .i64 (D1_.n), .map (some (D1_held_b10)), .slice (D_pend_a151) (D1_.pend).length (D_pend_c152)] 78 :: mpG Mwr (D1_held_b10) (D1_.held) (D_held_k150) :: grow 80 RWr h58 (D1_.pend) (D_pend_a151) (D_pend_c152) :: L) w73 := (St.back2 (i := 7) (St.back2 (i := 7) (St.back2 (i := 7) (St.back2 (i := 7) (St.back2 (i := 7) hS72 rfl) rfl) rfl) rfl) rfl)
      refine WL.val1 (R_assign (v := .slice (r_a78) (S1_.files).length (r_c79)) rfl) ?_
      refine WL.nil ?_
      refine then_normal ?_
      refine WC.seq ?_
      refine WC.seq ?_
      refine WC.region ?_
      refine WL.val1 (R_assign (v := .int .i64 (0)) rfl) ?_
      refine WL.nil ?_
      refine then_normal ?_
      refine WC.block ?_
      refine WC.loopL (σ := Nat × (List File) × (Option Addr) × Nat)
        (fun (q_ : Nat × (List File) × (Option Addr) × Nat) => (fun (j : Nat) (q : List File) (q_a : Option Addr) (q_c : Nat) => [(3, .pointer (some ⟨S1_b6, 0, none⟩)), (6, .slice (a28) ((([] : List File) ++ (mapS l 6 40))).length (c29)), (8, .slice (q_a) (q).length (q_c)), (9, .int .i64 (((j : Nat) : Int)))]) (q_.1) (q_.2.1) (q_.2.2.1) (q_.2.2.2))
        (fun (q_ : Nat × (List File) × (Option Addr) × Nat) (w_ : World) => (fun (j : Nat) (q : List File) (q_a : Option Addr) (q_c : Nat) => ∃ h83 : Hp, h58.le h83 ∧ St Γ h83 (grow 29 RFile h83 (q) (q_a) (q_c) :: grow 29 RFile h83 ((([] : List File) ++ (mapS l 6 40))) (a28) (c29) :: grow 29 RFile h83 (u) (u_a) (u_c) :: row (S1_b6) [.pointer (some ⟨D1_b9, 0, none⟩), .int .i64 (S1_.g0), .int .i64 (S1_.z0), .int .i64 (S1_.g1), .int .i64 (S1_.z1), .slice (S_files_a148) (S1_.files).length (S_files_c149)] 60 :: grow 29 RFile h83 (S1_.files) (S_files_a148) (S_files_c149) :: row (D1_b9) [.bool (D1_.is), .int .i64 (D1_.left), .int .i64 (D1_.n), .map (some (D1_held_b10)), .slice (D_pend_a151) (D1_.pend).length (D_pend_c152)] 78 :: mpG Mwr (D1_held_b10) (D1_.held) (D_held_k150) :: grow 80 RWr h83 (D1_.pend) (D_pend_a151) (D_pend_c152) :: L) w_ ∧ (q.length ≤ 1000) ∧ (j ≤ q.length)) (q_.1) (q_.2.1) (q_.2.2.1) (q_.2.2.2))
        (fun (q_ : Nat × (List File) × (Option Addr) × Nat) => (fun (j : Nat) (q : List File) (q_a : Option Addr) (q_c : Nat) => q.length - j) (q_.1) (q_.2.1) (q_.2.2.1) (q_.2.2.2)) (0, S1_.files, r_a78, r_c79) ?_ ?_ ?_
      · exact ⟨rfl, rfl, (by first | rfl | exact congrArg (fun n_ => Value.slice q_a n_ q_c) (List.length_set).symm), (by first | rfl | (apply congrArg (Value.int .i64); omega) | simp), trivial⟩
      · exact ⟨h58, Hp.le_refl _, hS80, (by dsimp only; have := (rightS_le (mapS_right l 6 40)).1; (try rw [f1_]); omega), (by exact Nat.zero_le _)⟩
      · rintro ⟨j, q, q_a, q_c⟩ r85 w82 ⟨h83, hl84, hS81, g2, g2i⟩
        try dsimp only at g2 g2i
        refine WC.seq ?_
        refine WC.seq ?_
        refine WC.region ?_
        refine WL.val1 (R_move (v := .int .i64 (((j : Nat) : Int))) rfl) ?_
        refine WL.val1 (R_move (v := .slice (q_a) (q).length (q_c)) rfl) ?_
        refine WL.val1 (R_len_slice (n := (q).length) rfl Tryz.underlying30) ?_
        refine WL.val1 (R_lss (a := ((j : Nat) : Int)) (b := (((q).length : Nat) : Int)) rfl rfl) ?_
        refine WL.nil ?_
        refine then_normal ?_
        refine WC.condP (((j : Nat) : Int) < (((q).length : Nat) : Int)) rfl (fun c3 => ?_) (fun c3 => ?_)
        · skip
          refine WC.skip ?_
          refine then_normal ?_
          refine WC.seq ?_
          refine WC.block ?_
          refine WC.region ?_
          refine WL.val1 (R_move (v := .slice (q_a) (q).length (q_c)) rfl) ?_
          refine WL.val1 (R_move (v := .int .i64 (((j : Nat) : Int))) rfl) ?_
          obtain ⟨z88, hz89⟩ : ∃ z, (q)[j]? = some z := ⟨_, List.getElem?_eq_getElem (by omega)⟩
          obtain ⟨b86, cu90, cs91, hb87, hr92, hh93, hc94⟩ := hS81.growAt (i := 0) (m := j) (z := z88) rfl hz89
          subst hr92
          refine WL.val1 (R_indexAddrE (i := ((j : Nat) : Int)) (m := j) hb87 rfl rfl Tryz.underlying30 (Tryz.sizeOf29 _) (by first | rfl | (omega)) (by omega)) ?_
          refine WL.val1 (R_fieldAddr (b := b86) (off := (0 + j * 2)) (m := 1) rfl (fun _ => by kernel_rfl)) ?_
          refine S_storeF (R := RFile) (i := 0) (m := j) (j := 1) (vs := [.string (B (([116, 117, 114, 110, 101, 100] : Str)))]) (z := z88) (z' := { z88 with text := ([116, 117, 114, 110, 101, 100] : Str) }) hS81 rfl hb87 hz89 rfl (by show 0 + j * 2 + 1 = j * 2 + 1; omega) rfl rfl rfl rfl (by decide) (fun cs_ h_ => by subst h_; rfl) Tryz.sizeOf9 rfl ?_
          intro w96 hS95
          refine WL.nil ?_
          refine block_normal ?_
          refine then_normal ?_
          refine WC.region ?_
          refine WL.val1 (R_move (v := .int .i64 (((j : Nat) : Int))) rfl) ?_
          refine WL.val1 (R_add_i (a := ((j : Nat) : Int)) (b := 1) rfl rfl (by omega)) ?_
          refine WL.val1 (R_assign (v := .int .i64 ((((j : Nat) : Int) + 1))) rfl) ?_
          refine WL.nil ?_
          refine then_normal ?_
          exact ⟨(j + 1, (q.set j { z88 with text := ([116, 117, 114, 110, 101, 100] : Str) }), q_a, q_c), ⟨rfl, rfl, (by first | rfl | exact congrArg (fun n_ => Value.slice q_a n_ q_c) (List.length_set).symm), (by first | rfl | (apply congrArg (Value.int .i64); omega) | simp), trivial⟩, ⟨h83, hl84, hS95, (by (try dsimp only); rw [List.length_set]; assumption), (by (try dsimp only); rw [List.length_set]; omega)⟩, (by (try simp only []); rw [List.length_set]; omega)⟩
        · skip
          refine WC.exit ?_
          refine then_exit ?_
          refine then_exit ?_
          refine block_exit ?_
          refine then_normal ?_
          refine WC.seq ?_
          refine WC.region ?_
          refine WL.val1 (R_move (v := .pointer (some ⟨S1_b6, 0, none⟩)) rfl) ?_
          have hS99 : St Γ h83 (row (S1_b6) [.pointer (some ⟨D1_b9, 0, none⟩), .int .i64 (S1_.g0), .int .i64 (S1_.z0), .int .i64 (S1_.g1), .int .i64 (S1_.z1), .slice (S_files_a148) (S1_.files).length (S_files_c149)] 60 :: grow 29 RFile h83 (S1_.files) (S_files_a148) (S_files_c149) :: row (D1_b9) [.bool (D1_.is), .int .i64 (D1_.left), .int .i64 (D1_.n), .map (some (D1_held_b10)), .slice (D_pend_a151) (D1_.pend).length (D_pend_c152)] 78 :: mpG Mwr (D1_held_b10) (D1_.held) (D_held_k150) :: grow 80 RWr h83 (D1_.pend) (D_pend_a151) (D_pend_c152) :: grow 29 RFile h83 (q) (q_a) (q_c) :: grow 29 RFile h83 ((([] : List File) ++ (mapS l 6 40))) (a28) (c29) :: grow 29 RFile h83 (u) (u_a) (u_c) :: emp :: emp :: emp :: emp :: emp :: L) w82 := (((((hS81.front (i := 7) rfl).front (i := 7) rfl).front (i := 7) rfl).front (i := 7) rfl).front (i := 7) rfl)
          refine S_callH (vs := [.pointer (some ⟨S1_b6, 0, none⟩)]) (A := fun hh_ => [row (S1_b6) [.pointer (some ⟨D1_b9, 0, none⟩), .int .i64 (S1_.g0), .int .i64 (S1_.z0), .int .i64 (S1_.g1), .int .i64 (S1_.z1), .slice (S_files_a148) (S1_.files).length (S_files_c149)] 60, grow 29 RFile hh_ (S1_.files) (S_files_a148) (S_files_c149), row (D1_b9) [.bool (D1_.is), .int .i64 (D1_.left), .int .i64 (D1_.n), .map (some (D1_held_b10)), .slice (D_pend_a151) (D1_.pend).length (D_pend_c152)] 78, mpG Mwr (D1_held_b10) (D1_.held) (D_held_k150), grow 80 RWr hh_ (D1_.pend) (D_pend_a151) (D_pend_c152)]) (L := grow 29 RFile h83 (q) (q_a) (q_c) :: grow 29 RFile h83 ((([] : List File) ++ (mapS l 6 40))) (a28) (c29) :: grow 29 RFile h83 (u) (u_a) (u_c) :: emp :: emp :: emp :: emp :: emp :: L) hS99 Tryz.call15 rfl (store_Load (S1_) (S1_b6) (S_files_a148) (S_files_c149) (D1_) (D1_b9) (D1_held_b10) (D_held_k150) (D_pend_a151) (D_pend_c152) i1_.sz) trivial ?_
          intro A100 v101 w98 hp102 hS97
          obtain ⟨r_a103, r_c104, rfl, rfl⟩ := hp102
          have hS97 : St Γ h83 (row (S1_b6) [.pointer (some ⟨D1_b9, 0, none⟩), .int .i64 (S1_.g0), .int .i64 (S1_.z0), .int .i64 (S1_.g1), .int .i64 (S1_.z1), .slice (S_files_a148) (S1_.files).length (S_files_c149)] 60 :: grow 29 RFile h83 (S1_.files) (S_files_a148) (S_files_c149) :: row (D1_b9) [.bool (D1_.is), .int .i64 (D1_.left), .int .i64 (D1_.n), .map (some (D1_held_b10)), .slice (D_pend_a151) (D1_.pend).length (D_pend_c152)] 78 :: mpG Mwr (D1_held_b10) (D1_.held) (D_held_k150) :: grow 80 RWr h83 (D1_.pend) (D_pend_a151) (D_pend_c152) :: grow 29 RFile h83 (S1_.files) (r_a103) (r_c104) :: grow 29 RFile h83 (q) (q_a) (q_c) :: grow 29 RFile h83 ((([] : List File) ++ (mapS l 6 40))) (a28) (c29) :: grow 29 RFile h83 (u) (u_a) (u_c) :: emp :: emp :: emp :: emp :: emp :: L) w98 := hS97
          have hS105 : St Γ h83 (grow 29 RFile h83 (S1_.files) (r_a103) (r_c104) :: grow 29 RFile h83 (q) (q_a) (q_c) :: grow 29 RFile h83 ((([] : List File) ++ (mapS l 6 40))) (a28) (c29) :: grow 29 RFile h83 (u) (u_a) (u_c) :: row (S1_b6) [.pointer (some ⟨D1_b9, 0, none⟩), .int .i64 (S1_.g0), .int .i64 (S1_.z0), .int .i64 (S1_.g1), .int .i64 (S1_.z1), .slice (S_files_a148) (S1_.files).length (S_files_c149)] 60 :: grow 29 RFile h83 (S1_.files) (S_files_a148) (S_files_c149) :: row (D1_b9) [.bool (D1_.is), .int .i64 (D1_.left), .int .i64 (D1_.n), .map (some (D1_held_b10)), .slice (D_pend_a151) (D1_.pend).length (D_pend_c152)] 78 :: mpG Mwr (D1_held_b10) (D1_.held) (D_held_k150) :: grow 80 RWr h83 (D1_.pend) (D_pend_a151) (D_pend_c152) :: L) w98 := (St.back2 (i := 8) (St.back2 (i := 8) (St.back2 (i := 8) (St.back2 (i := 8) (St.back2 (i := 8) hS97 rfl) rfl) rfl) rfl) rfl)
          refine WL.val1 (R_move (v := .slice (a28) ((([] : List File) ++ (mapS l 6 40))).length (c29)) rfl) ?_
          obtain ⟨h106, hl107, hs108, hS109, back110⟩ := hS105.lendG (i := 0) rfl (Hp.le_refl _)
          obtain ⟨h111, hl112, hs113, hS114, back115⟩ := hS109.lendG (i := 2) rfl hl107
          refine S_callP (vs := [.slice (r_a103) (S1_.files).length (r_c104), .slice (a28) ((([] : List File) ++ (mapS l 6 40))).length (c29)]) hS114 Tryz.call14 rfl (law_Same (S1_.files) (r_a103) (r_c104) ((([] : List File) ++ (mapS l 6 40))) (a28) (c29) (by have := i1_.sz; omega)) ⟨(hs108.mono hl112), hs113⟩ ?_
          intro w117 hS116
          have hS118 := back115 _ 2 _ rfl hS116
          have hS119 : St Γ h106 (emp :: grow 29 RFile h83 (q) (q_a) (q_c) :: grow 29 RFile h83 ((([] : List File) ++ (mapS l 6 40))) (a28) (c29) :: grow 29 RFile h83 (u) (u_a) (u_c) :: row (S1_b6) [.pointer (some ⟨D1_b9, 0, none⟩), .int .i64 (S1_.g0), .int .i64 (S1_.z0), .int .i64 (S1_.g1), .int .i64 (S1_.z1), .slice (S_files_a148) (S1_.files).length (S_files_c149)] 60 :: grow 29 RFile h83 (S1_.files) (S_files_a148) (S_files_c149) :: row (D1_b9) [.bool (D1_.is), .int .i64 (D1_.left), .int .i64 (D1_.n), .map (some (D1_held_b10)), .slice (D_pend_a151) (D1_.pend).length (D_pend_c152)] 78 :: mpG Mwr (D1_held_b10) (D1_.held) (D_held_k150) :: grow 80 RWr h83 (D1_.pend) (D_pend_a151) (D_pend_c152) :: L) w117 := hS118
          have hS120 := back110 _ 0 _ rfl hS119
          have hS121 : St Γ h83 (grow 29 RFile h83 (S1_.files) (r_a103) (r_c104) :: grow 29 RFile h83 (q) (q_a) (q_c) :: grow 29 RFile h83 ((([] : List File) ++ (mapS l 6 40))) (a28) (c29) :: grow 29 RFile h83 (u) (u_a) (u_c) :: row (S1_b6) [.pointer (some ⟨D1_b9, 0, none⟩), .int .i64 (S1_.g0), .int .i64 (S1_.z0), .int .i64 (S1_.g1), .int .i64 (S1_.z1), .slice (S_files_a148) (S1_.files).length (S_files_c149)] 60 :: grow 29 RFile h83 (S1_.files) (S_files_a148) (S_files_c149) :: row (D1_b9) [.bool (D1_.is), .int .i64 (D1_.left), .int .i64 (D1_.n), .map (some (D1_held_b10)), .slice (D_pend_a151) (D1_.pend).length (D_pend_c152)] 78 :: mpG Mwr (D1_held_b10) (D1_.held) (D_held_k150) :: grow 80 RWr h83 (D1_.pend) (D_pend_a151) (D_pend_c152) :: L) w117 := hS120
          refine WL.val1 (R_cast (R_move (v := .bool (decide (S1_.files = (([] : List File) ++ (mapS l 6 40))))) rfl) (bool_true (by exact decide_eq_true f1_))) ?_
          refine WL_unguard (yl_eq (d := 51) rfl rfl) ?_
          refine S_callP (vs := []) hS121 Tryz.call11 rfl law_fixed trivial ?_
          intro w123 hS122
          refine WL.val1 (R_pick (cb := true) (v := .bool (true)) rfl (fun _ => rfl) (fun h => by cases h)) ?_
          refine WL.val1 (R_assign (v := .bool (true)) rfl) ?_
          refine WL.nil ?_
          refine then_normal ?_
          refine WC.ret ?_
          refine top_ret (.bool (true)) (gives1 rfl rfl) ?_
          exact ⟨(by rfl), (hS122.pop.pop.pop.pop.pop.pop.pop.pop.pop.weaken_h (hl59.trans hl84))⟩
end Go.Stet
