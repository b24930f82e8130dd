/- A part of the proof engine: rules for steps of the machine over frames and memory. Each under the conditions that its own statement names. -/
import Derived.Test.YtejombkbijackaaDoorSeatD2
import Derived.Test.YtejombkbijackaaDoorBldD
import Derived.Test.YtejombkbijackaaDoorEng15
import Derived.Test.YtejombkbijackaaDoorSpec12
import Derived.Test.YtejombkbijackaaDoorD5
set_option linter.all false
set_option linter.unusedSimpArgs false
set_option linter.unusedVariables false
namespace Go.Stet
open Go Go.Eng Go.Proofs
set_option maxHeartbeats 400000 in
theorem wire_All (s : Str) (hs : s.length ≤ 1000000000) : FnC GG Tryd.prog 44 (fun _ => True) [.string (B (s))] (fun h v => ∃ (a : Option Addr) (c : Nat), v = .tuple #[.slice (a) ((allS s).1).length (c), .int .i64 ((allS s).2)] ∧ (Sl Rstr h (allS s).1 a c)) := by
  intro Γ h L w hpre hS
  refine Ret.body Tryd.func44 rfl Tryd.ntmps44 (Nat.le_of_ble_eq_true rfl) ?_
  refine WC.seq ?_
  refine WC.region ?_
  refine WL.val1 (R_assign (v := .slice none 0 0) rfl) ?_
  refine WL.val1 (R_assign (v := .int .i64 (0)) rfl) ?_
  refine WL.nil ?_
  refine then_normal ?_
  refine WC.seq ?_
  refine WC.region ?_
  refine WL.val1 (R_assign (v := .slice none 0 0) rfl) ?_
  refine WL.nil ?_
  refine then_normal ?_
  refine WC.seq ?_
  refine WC.seq ?_
  refine WC.region ?_
  refine WL.val1 (R_assign (v := .int .i64 (0)) rfl) ?_
  refine WL.nil ?_
  refine then_normal ?_
  refine WC.block ?_
  have hS1 := hS.growNil 9 Rstr h
  refine WC.loopL (σ := Int × (List Str) × (Option Addr) × Nat)
    (fun (q_ : Int × (List Str) × (Option Addr) × Nat) => (fun (at_ : Int) (acc : List Str) (acc_a : Option Addr) (acc_c : Nat) => [(0, .string (B (s))), (4, .slice (acc_a) (acc).length (acc_c)), (5, .int .i64 (at_))]) (q_.1) (q_.2.1) (q_.2.2.1) (q_.2.2.2))
    (fun (q_ : Int × (List Str) × (Option Addr) × Nat) (w_ : World) => (fun (at_ : Int) (acc : List Str) (acc_a : Option Addr) (acc_c : Nat) => ∃ h4 : Hp, h.le h4 ∧ St Γ h4 (grow 9 Rstr h4 (acc) (acc_a) (acc_c) :: L) w_ ∧ (0 ≤ at_ ∧ at_ ≤ s.length) ∧ (acc.length ≤ at_) ∧ (∃ k : Nat, s.length + 1 ≤ at_ + k ∧ allF s k at_ acc = allS s)) (q_.1) (q_.2.1) (q_.2.2.1) (q_.2.2.2))
    (fun (q_ : Int × (List Str) × (Option Addr) × Nat) => (fun (at_ : Int) (acc : List Str) (acc_a : Option Addr) (acc_c : Nat) => (s.length + 1 - at_).toNat) (q_.1) (q_.2.1) (q_.2.2.1) (q_.2.2.2)) (0, ([] : List Str), none, 0) ?_ ?_ ?_
  · exact ⟨rfl, (by first | rfl | (apply congrArg (Value.int .i64); omega) | simp), (by first | rfl | (apply congrArg (Value.int .i64); omega) | simp), trivial⟩
  · exact ⟨h, Hp.le_refl _, hS1, (by first | assumption | omega | simp), (by first | assumption | omega | simp), (by exact ⟨s.length + 1, by omega, rfl⟩)⟩
  · rintro ⟨at_, acc, acc_a, acc_c⟩ r6 w3 ⟨h4, hl5, hS2, f1, f2, f3⟩
    try dsimp only at f1 f2 f3
    obtain ⟨k, hk, f3⟩ := f3
    have hb := getS_bd s at_ 999999
    refine WC.seq ?_
    refine WC.seq ?_
    refine WC.region ?_
    refine WL.val1 (R_move (v := .int .i64 (at_)) rfl) ?_
    refine WL.val1 (R_move (v := .string (B (s))) rfl) ?_
    refine WL.val1 (R_slen (a := s) rfl Tryd.underlying9) ?_
    refine WL.val1 (R_lss (a := at_) (b := (((s).length : Nat) : Int)) rfl rfl) ?_
    refine WL.nil ?_
    refine then_normal ?_
    refine WC.condP (at_ < (((s).length : Nat) : Int)) rfl (fun c0 => ?_) (fun c0 => ?_)
    · skip
      refine WC.skip ?_
      refine then_normal ?_
      refine WC.block ?_
      refine WC.seq ?_
      refine WC.region ?_
      refine WL.val1 (R_move (v := .string (B (s))) rfl) ?_
      refine WL.val1 (R_move (v := .int .i64 (at_)) rfl) ?_
      refine S_callP (vs := [.string (B (s)), .int .i64 (at_), .int .i64 (999999)]) hS2 Tryd.call51 rfl (wire_Get (s) (at_) (999999) (by first | assumption | omega)) trivial ?_
      intro w8 hS7
      refine WL.val1 (R_move (v := .tuple #[.string (B ((getS s at_ 999999).1)), .int .i64 ((getS s at_ 999999).2.1), .int .i64 ((getS s at_ 999999).2.2)]) rfl) ?_
      refine WL.val1 (R_extract (vs := ([.string (B ((getS s at_ 999999).1)), .int .i64 ((getS s at_ 999999).2.1), .int .i64 ((getS s at_ 999999).2.2)] : List Value).toArray) (v := .string (B ((getS s at_ 999999).1))) rfl rfl) ?_
      refine WL.val1 (R_extract (vs := ([.string (B ((getS s at_ 999999).1)), .int .i64 ((getS s at_ 999999).2.1), .int .i64 ((getS s at_ 999999).2.2)] : List Value).toArray) (v := .int .i64 ((getS s at_ 999999).2.1)) rfl rfl) ?_
      refine WL.val1 (R_extract (vs := ([.string (B ((getS s at_ 999999).1)), .int .i64 ((getS s at_ 999999).2.1), .int .i64 ((getS s at_ 999999).2.2)] : List Value).toArray) (v := .int .i64 ((getS s at_ 999999).2.2)) rfl rfl) ?_
      refine WL.val1 (R_assign (v := .string (B ((getS s at_ 999999).1))) rfl) ?_
      refine WL.val1 (R_assign (v := .int .i64 ((getS s at_ 999999).2.1)) rfl) ?_
      refine WL.val1 (R_assign (v := .int .i64 ((getS s at_ 999999).2.2)) rfl) ?_
      refine WL.nil ?_
      refine then_normal ?_
      refine WC.seq ?_
      refine WC.seq ?_
      refine WC.region ?_
      refine WL.val1 (R_move (v := .int .i64 ((getS s at_ 999999).2.2)) rfl) ?_
      refine WL.val1 (R_neq (a := (getS s at_ 999999).2.2) (b := 0) rfl rfl) ?_
      refine WL.nil ?_
      refine then_normal ?_
      refine WC.condP ((getS s at_ 999999).2.2 ≠ 0) rfl (fun c1 => ?_) (fun c1 => ?_)
      · skip
        refine WC.seq ?_
        refine WC.region ?_
        refine WL.val1 (R_move (v := .int .i64 ((getS s at_ 999999).2.2)) rfl) ?_
        refine WL.val1 (R_assign (v := .slice none 0 0) rfl) ?_
        refine WL.val1 (R_assign (v := .int .i64 ((getS s at_ 999999).2.2)) rfl) ?_
        refine WL.nil ?_
        refine then_normal ?_
        refine WC.ret ?_
        refine then_ret ?_
        refine block_ret ?_
        refine then_ret ?_
        refine block_ret ?_
        refine then_ret ?_
        refine top_ret (.tuple #[.slice none 0 0, .int .i64 ((getS s at_ 999999).2.2)]) (gives2 rfl rfl rfl) ?_
        have e_ := allF_err s at_ acc k hk f3 c0 c1
        exact ⟨h4, hl5, ⟨none, 0, (by first | rfl | (rw [e_]; done) | (rw [e_]; rfl) | (simp; done)), (by first | exact Sl.nil _ _ _ _ | (rw [e_]; exact Sl.nil _ _ _ _))⟩, hS7.pop⟩
      · skip
        refine WC.skip ?_
        refine then_normal ?_
        refine WC.region ?_
        refine WL.val1 (R_move (v := .slice (acc_a) (acc).length (acc_c)) rfl) ?_
        refine WL.val1 (R_move (v := .string (B ((getS s at_ 999999).1))) rfl) ?_
        refine S_buildSliceC (R := Rstr) (m := 1) (vs := [(0, .string (B ((getS s at_ 999999).1)))]) (cells := [.string (B ((getS s at_ 999999).1))]) (xs := [(getS s at_ 999999).1]) hS7 Tryd.underlying24 Tryd.sizeOf9 Tryd.zeroValue9 (by decide) (by decide) rfl (by kernel_rfl) (by exact (⟨[.string (B ((getS s at_ 999999).1))], _, rfl, rfl, rfl⟩ : Flat Rstr _ [(getS s at_ 999999).1] _)) rfl ?_
        intro h11 b13 w10 hl12 hs14 hS9
        refine S_append (info := Tryd.t9) (R := Rstr) (xs := acc) (ys := [(getS s at_ 999999).1]) (a := acc_a) (c := acc_c) 0 Tryd.underlying24 (by kernel_rfl) rfl rfl rfl (by decide) 16 rfl hS9 rfl hl12 hs14 rfl rfl (by (try simp only [List.length_append, List.length_cons, List.length_nil]); omega) (by (try simp only [List.length_append, List.length_cons, List.length_nil]); omega) ?_
        intro a15 c16 w17 hS18
        refine WL.val1 (R_move (v := .int .i64 ((getS s at_ 999999).2.1)) rfl) ?_
        refine WL.val1 (R_assign (v := .slice (a15) ((acc ++ [(getS s at_ 999999).1])).length (c16)) rfl) ?_
        refine WL.val1 (R_assign (v := .int .i64 ((getS s at_ 999999).2.1)) rfl) ?_
        refine WL.nil ?_
        refine block_normal ?_
        refine then_normal ?_
        exact ⟨((getS s at_ 999999).2.1, (acc ++ [(getS s at_ 999999).1]), a15, c16), ⟨rfl, (by first | rfl | (apply congrArg (Value.int .i64); omega) | simp), (by first | rfl | (apply congrArg (Value.int .i64); omega) | simp), trivial⟩, ⟨h11, (hl5.trans hl12), hS18, (by (try dsimp only); omega), (by (try dsimp only); simp; omega), (by (try dsimp only); exact allF_next s at_ acc k hk f3 c0 (by omega))⟩, (by first | (simp only []; omega) | (simp; omega))⟩
    · skip
      refine WC.exit ?_
      refine then_exit ?_
      refine then_exit ?_
      refine block_exit ?_
      refine then_normal ?_
      refine WC.seq ?_
      refine WC.region ?_
      refine WL.val1 (R_move (v := .slice (acc_a) (acc).length (acc_c)) rfl) ?_
      refine WL.val1 (R_assign (v := .slice (acc_a) (acc).length (acc_c)) rfl) ?_
      refine WL.val1 (R_assign (v := .int .i64 (0)) rfl) ?_
      refine WL.nil ?_
      refine then_normal ?_
      refine WC.ret ?_
      refine top_ret (.tuple #[.slice (acc_a) (acc).length (acc_c), .int .i64 (0)]) (gives2 rfl rfl rfl) ?_
      obtain ⟨h19, hl20, hs21, hS22⟩ := hS2.growCommit (i := 0) rfl (Hp.le_refl _)
      have e_ := allF_end s at_ acc k hk f3 c0
      exact ⟨h19, (hl5.trans hl20), ⟨acc_a, acc_c, (by first | rfl | (rw [e_]; done) | (rw [e_]; rfl) | (simp; done)), (by first | exact hs21 | (rw [e_]; exact hs21))⟩, hS22.pop⟩
set_option maxHeartbeats 400000 in
theorem files_Name (s : Str) (hs : s.length ≤ 1000000000) : PureC GG Tryd.prog 53 (fun _ => True) [.string (B (s))] (.bool (nameS s)) := by
  intro Γ h L w hpre hS
  refine Ret.body Tryd.func53 rfl Tryd.ntmps53 (Nat.le_of_ble_eq_true rfl) ?_
  refine WC.seq ?_
  refine WC.region ?_
  refine WL.val1 (R_assign (v := .bool (false)) rfl) ?_
  refine WL.nil ?_
  refine then_normal ?_
  refine WC.seq ?_
  refine WC.seq ?_
  refine WC.region ?_
  refine WL.val1 (R_move (v := .string (B (s))) rfl) ?_
  refine WL.val1 (R_slen (a := s) rfl Tryd.underlying9) ?_
  refine WL.val1 (R_move (v := .int .i64 (0)) rfl) ?_
  refine WL.nil ?_
  refine then_normal ?_
  refine WC.block ?_
  refine WC.loopL (σ := Nat)
    (fun (q_ : Nat) => (fun (i : Nat) => [(0, .string (B (s))), (5, .int .i64 ((((s).length : Nat) : Int))), (6, .int .i64 (((i : Nat) : Int)))]) (q_))
    (fun (q_ : Nat) (w_ : World) => (fun (i : Nat) => ∃ h3 : Hp, h.le h3 ∧ St Γ h3 (L) w_ ∧ (i ≤ s.length) ∧ (nameF (s.drop i) = nameF s)) (q_))
    (fun (q_ : Nat) => (fun (i : Nat) => s.length - i) (q_)) (0) ?_ ?_ ?_
  · exact ⟨rfl, rfl, (by first | rfl | (apply congrArg (Value.int .i64); omega) | simp), trivial⟩
  · exact ⟨h, Hp.le_refl _, hS, (by first | assumption | omega | simp), (by rfl)⟩
  · rintro i r5 w2 ⟨h3, hl4, hS1, f1, f2⟩
    try dsimp only at f1 f2
    have hx := lits_ok (at8_rng s i)
    refine WC.seq ?_
    refine WC.region ?_
    refine WL.val1 (R_lss (a := ((i : Nat) : Int)) (b := (((s).length : Nat) : Int)) rfl rfl) ?_
    refine WL.nil ?_
    refine then_normal ?_
    refine WC.seq ?_
    refine WC.condP (((i : Nat) : Int) < (((s).length : Nat) : Int)) rfl (fun c0 => ?_) (fun c0 => ?_)
    · skip
      refine WC.skip ?_
      refine then_normal ?_
      refine WC.seq ?_
      refine WC.block ?_
      refine WC.seq ?_
      refine WC.region ?_
      refine WL.val1 (R_move (v := .int .i64 (((i : Nat) : Int))) rfl) ?_
      refine WL.val1 (R_assign (v := .int .i64 (((i : Nat) : Int))) rfl) ?_
      refine WL.nil ?_
      refine then_normal ?_
      refine WC.seq ?_
      refine WC.region ?_
      refine WL.val1 (R_move (v := .string (B (s))) rfl) ?_
      refine WL.val1 (R_move (v := .int .i64 (((i : Nat) : Int))) rfl) ?_
      refine WL.val1 (R_sindex (a := s) (i := ((i : Nat) : Int)) (n := i) rfl rfl Tryd.underlying9 (by first | rfl | (omega)) (by omega)) ?_
      have hb6 := at8_rng s i
      refine S_callP (vs := [.string (B (([97, 98, 99, 100, 101, 102, 103, 104, 105, 106, 107, 108, 109, 110, 111, 112, 113, 114, 115, 116, 117, 118, 119, 120, 121, 122, 48, 49, 50, 51, 52, 53, 54, 55, 56, 57, 45, 46] : Str))), .int .u8 ((at8 s i))]) hS1 Tryd.call58 rfl (lib_IndexByte (([97, 98, 99, 100, 101, 102, 103, 104, 105, 106, 107, 108, 109, 110, 111, 112, 113, 114, 115, 116, 117, 118, 119, 120, 121, 122, 48, 49, 50, 51, 52, 53, 54, 55, 56, 57, 45, 46] : Str)) ((at8 s i))) trivial ?_
      intro w8 hS7
      refine WL.val1 (R_lss (a := (Lib.indexByte (([97, 98, 99, 100, 101, 102, 103, 104, 105, 106, 107, 108, 109, 110, 111, 112, 113, 114, 115, 116, 117, 118, 119, 120, 121, 122, 48, 49, 50, 51, 52, 53, 54, 55, 56, 57, 45, 46] : Str)) ((at8 s i)).toNat.toUInt8)) (b := 0) rfl rfl) ?_
      refine WL.nil ?_
      refine then_normal ?_
      refine WC.condP ((Lib.indexByte (([97, 98, 99, 100, 101, 102, 103, 104, 105, 106, 107, 108, 109, 110, 111, 112, 113, 114, 115, 116, 117, 118, 119, 120, 121, 122, 48, 49, 50, 51, 52, 53, 54, 55, 56, 57, 45, 46] : Str)) ((at8 s i)).toNat.toUInt8) < 0) rfl (fun c1 => ?_) (fun c1 => ?_)
      · skip
        refine WC.seq ?_
        refine WC.region ?_
        refine WL.val1 (R_assign (v := .bool (false)) rfl) ?_
        refine WL.nil ?_
        refine then_normal ?_
        refine WC.ret ?_
        refine block_ret ?_
        refine then_ret ?_
        refine then_ret ?_
        refine block_ret ?_
        refine then_ret ?_
        refine top_ret (.bool (false)) (gives1 rfl rfl) ?_
        exact ⟨(by rw [nameS, ← f2, nameF_step s i (by omega), hx.1 c1]; rfl), (hS7.weaken_h hl4)⟩
      · skip
        refine WC.skip ?_
        refine block_normal ?_
        refine then_normal ?_
        refine WC.region ?_
        refine WL.val1 (R_add_i (a := ((i : Nat) : Int)) (b := 1) rfl rfl (by omega)) ?_
        refine WL.val1 (R_move (v := .int .i64 ((((i : Nat) : Int) + 1))) rfl) ?_
        refine WL.nil ?_
        refine then_normal ?_
        exact ⟨(i + 1), ⟨rfl, rfl, (by first | rfl | (apply congrArg (Value.int .i64); omega) | simp), trivial⟩, ⟨h3, hl4, hS7, (by (try dsimp only); first | assumption | omega | simp), (by (try dsimp only); rw [← f2, nameF_step s i (by omega), show okB (at8 s i) = true by cases hk : okB (at8 s i); exact absurd (hx.2 hk) c1; rfl]; rfl)⟩, (by first | (simp only []; omega) | (simp; omega))⟩
    · skip
      refine WC.exit ?_
      refine then_exit ?_
      refine then_exit ?_
      refine block_exit ?_
      refine then_normal ?_
      refine WC.seq ?_
      refine WC.region ?_
      refine WL.val1 (R_move (v := .string (B (s))) rfl) ?_
      refine WL.val1 (R_slen (a := s) rfl Tryd.underlying9) ?_
      refine WL.val1 (R_geq (a := (((s).length : Nat) : Int)) (b := 1) rfl rfl) ?_
      refine WL.val1 (R_move (v := .bool (decide (1 ≤ (((s).length : Nat) : Int)))) rfl) ?_
      refine WL.gpure (gd := decide (1 ≤ (((s).length : Nat) : Int))) (yl_t (d := 18) rfl rfl) (fun hg => R_move (v := .string (B (s))) rfl) ?_
      refine WL.gpure (gd := decide (1 ≤ (((s).length : Nat) : Int))) (yl_t (d := 18) rfl rfl) (fun hg => R_slen (a := s) (gvT hg rfl) Tryd.underlying9) ?_
      refine WL.gpure (gd := decide (1 ≤ (((s).length : Nat) : Int))) (yl_t (d := 18) rfl rfl) (fun hg => R_leq (a := (((s).length : Nat) : Int)) (b := 24) (gvT hg rfl) rfl) ?_
      refine WL.val1 (R_and (cb := decide (1 ≤ (((s).length : Nat) : Int))) (yb := decide ((((s).length : Nat) : Int) ≤ 24)) rfl rfl rfl) ?_
      refine WL.val1 (R_assign (v := .bool ((decide (1 ≤ (((s).length : Nat) : Int)) && decide ((((s).length : Nat) : Int) ≤ 24)))) rfl) ?_
      refine WL.nil ?_
      refine then_normal ?_
      refine WC.ret ?_
      refine top_ret (.bool ((decide (1 ≤ (((s).length : Nat) : Int)) && decide ((((s).length : Nat) : Int) ≤ 24)))) (gives1 rfl rfl) ?_
      exact ⟨(by rw [nameS, ← f2, nameF_end s i (by omega)]; apply congrArg Value.bool; rw [Bool.eq_iff_iff]; simp <;> omega), (hS1.weaken_h hl4)⟩
set_option maxHeartbeats 400000 in
theorem files_Right (l : List File) (l_a : Option Addr) (l_c : Nat) (hl : l.length ≤ 1000000000) (hsz : ∀ x ∈ l, x.name.length ≤ 1000000 ∧ x.text.length ≤ 1000000) : PureC GG Tryd.prog 47 (fun h => Sl RFile h l l_a l_c) [.slice (l_a) (l).length (l_c)] (.bool (rightS l)) := by
  intro Γ h L w hpre hS
  have sl_l := hpre
  refine Ret.body Tryd.func47 rfl Tryd.ntmps47 (Nat.le_of_ble_eq_true rfl) ?_
  refine WC.seq ?_
  refine WC.region ?_
  refine WL.val1 (R_assign (v := .bool (false)) rfl) ?_
  refine WL.nil ?_
  refine then_normal ?_
  refine WC.seq ?_
  refine WC.seq ?_
  refine WC.region ?_
  refine WL.val1 (R_move (v := .slice (l_a) (l).length (l_c)) rfl) ?_
  refine WL.val1 (R_len_slice (n := (l).length) rfl Tryd.underlying23) ?_
  refine WL.val1 (R_move (v := .int .i64 (0)) rfl) ?_
  refine WL.nil ?_
  refine then_normal ?_
  refine WC.block ?_
  refine WC.loopL (σ := Nat)
    (fun (q_ : Nat) => (fun (i : Nat) => [(0, .slice (l_a) (l).length (l_c)), (5, .slice (l_a) (l).length (l_c)), (6, .int .i64 ((((l).length : Nat) : Int))), (7, .int .i64 (((i : Nat) : Int)))]) (q_))
    (fun (q_ : Nat) (w_ : World) => (fun (i : Nat) => ∃ h3 : Hp, h.le h3 ∧ St Γ h3 (L) w_ ∧ (i ≤ l.length) ∧ (rightF (prevN l i) (l.drop i) = rightF none l)) (q_))
    (fun (q_ : Nat) => (fun (i : Nat) => l.length - i) (q_)) (0) ?_ ?_ ?_
  · exact ⟨rfl, rfl, rfl, (by first | rfl | (apply congrArg (Value.int .i64); omega) | simp), trivial⟩
  · exact ⟨h, Hp.le_refl _, hS, (by first | assumption | omega | simp), (by rfl)⟩
  · rintro i r5 w2 ⟨h3, hl4, hS1, f1, f2⟩
    try dsimp only at f1 f2
    refine WC.seq ?_
    refine WC.region ?_
    refine WL.val1 (R_lss (a := ((i : Nat) : Int)) (b := (((l).length : Nat) : Int)) rfl rfl) ?_
    refine WL.nil ?_
    refine then_normal ?_
    refine WC.seq ?_
    refine WC.condP (((i : Nat) : Int) < (((l).length : Nat) : Int)) rfl (fun c0 => ?_) (fun c0 => ?_)
    · skip
      refine WC.skip ?_
      refine then_normal ?_
      refine WC.seq ?_
      refine WC.block ?_
      refine WC.seq ?_
      refine WC.region ?_
      refine WL.val1 (R_move (v := .int .i64 (((i : Nat) : Int))) rfl) ?_
      obtain ⟨z_l_i, hz_l_i⟩ : ∃ z, (l)[i]? = some z := ⟨_, List.getElem?_eq_getElem (by omega)⟩
      obtain ⟨b6, o7, cs11, ha8, hr9, hat10⟩ := (sl_l.mono hl4).2 i z_l_i hz_l_i
      subst hr9
      have hb_l_i := hsz z_l_i (List.mem_of_getElem? hz_l_i)
      refine WL.val1 (R_indexAddrE (i := ((i : Nat) : Int)) (m := i) ha8 rfl rfl Tryd.underlying23 (Tryd.sizeOf53 _) (by first | rfl | (omega)) (by omega)) ?_
      refine WL.val1 (R_loadCA (cs := [.string (B (z_l_i.name)), .string (B (z_l_i.text))]) hS1 rfl hat10 Tryd.isAgg53 Tryd.sizeOf53 rfl) ?_
      refine S_alloc hS1 Tryd.zeroValue53 ?_
      intro w13 hS12
      refine WL.val1 (R_assign (v := .int .i64 (((i : Nat) : Int))) rfl) ?_
      refine S_store (i := 0) (b := w2.heap.size) (l := [.string (B (([] : Str))), .string (B (([] : Str)))]) (l' := [.string (B (z_l_i.name)), .string (B (z_l_i.text))]) (vs := [.string (B (z_l_i.name)), .string (B (z_l_i.text))]) (v := .agg #[.string (B (z_l_i.name)), .string (B (z_l_i.text))]) hS12 rfl rfl rfl Tryd.sizeOf53 rfl rfl rfl (Nat.le_of_ble_eq_true rfl) rfl rfl ?_
      intro w15 hS14
      refine WL.nil ?_
      refine then_normal ?_
      refine WC.seq ?_
      obtain ⟨z_l_i_1, hz_l_i_1⟩ : ∃ z, (l)[(i - 1)]? = some z := ⟨_, List.getElem?_eq_getElem (by omega)⟩
      obtain ⟨b90, o91, cs95, ha92, hr93, hat94⟩ := (sl_l.mono hl4).2 (i - 1) z_l_i_1 hz_l_i_1
      subst hr93
      have hb_l_i_1 := hsz z_l_i_1 (List.mem_of_getElem? hz_l_i_1)
      refine WC.draw 22 [(0, .slice (l_a) (l).length (l_c)), (3, .int .i64 (((i : Nat) : Int))), (4, .pointer (some ⟨w2.heap.size, 0, none⟩)), (5, .slice (l_a) (l).length (l_c)), (6, .int .i64 ((((l).length : Nat) : Int))), (7, .int .i64 (((i : Nat) : Int)))] ((fun _ v => v = .pointer (some ⟨w2.heap.size, 0, none⟩)) :: (fun _ v => v = .string (B (z_l_i.name))) :: (fun _ v => v = .bool (nameS z_l_i.name)) :: (fun _ v => v = .bool ((!(nameS z_l_i.name)))) :: (fun _ v => v = .bool ((!(nameS z_l_i.name)))) :: (fun _ v => v = gv ((!((!(nameS z_l_i.name))))) (.pointer (some ⟨w2.heap.size, 1, none⟩))) :: (fun _ v => v = gv ((!((!(nameS z_l_i.name))))) (.string (B (z_l_i.text)))) :: (fun _ v => v = gv ((!((!(nameS z_l_i.name))))) (.int .i64 ((((z_l_i.text).length : Nat) : Int)))) :: (fun _ v => v = gv ((!((!(nameS z_l_i.name))))) (.bool (decide (4000 < (((z_l_i.text).length : Nat) : Int))))) :: (fun _ v => v = .bool (((!(nameS z_l_i.name)) || decide (4000 < (((z_l_i.text).length : Nat) : Int))))) :: (fun _ v => v = .bool (((!(nameS z_l_i.name)) || decide (4000 < (((z_l_i.text).length : Nat) : Int))))) :: (fun _ v => v = gv ((!(((!(nameS z_l_i.name)) || decide (4000 < (((z_l_i.text).length : Nat) : Int)))))) (.int .i64 (((i : Nat) : Int)))) :: (fun _ v => v = gv ((!(((!(nameS z_l_i.name)) || decide (4000 < (((z_l_i.text).length : Nat) : Int)))))) (.bool (decide (0 < ((i : Nat) : Int))))) :: (fun _ v => v = gv ((!(((!(nameS z_l_i.name)) || decide (4000 < (((z_l_i.text).length : Nat) : Int)))))) (.bool (decide (0 < ((i : Nat) : Int))))) :: (fun _ v => v = gv ((((!(((!(nameS z_l_i.name)) || decide (4000 < (((z_l_i.text).length : Nat) : Int)))))) && (decide (0 < ((i : Nat) : Int))))) (.slice (l_a) (l).length (l_c))) :: (fun _ v => v = gv ((((!(((!(nameS z_l_i.name)) || decide (4000 < (((z_l_i.text).length : Nat) : Int)))))) && (decide (0 < ((i : Nat) : Int))))) (.int .i64 (((i : Nat) : Int)))) :: (fun _ v => v = gv ((((!(((!(nameS z_l_i.name)) || decide (4000 < (((z_l_i.text).length : Nat) : Int)))))) && (decide (0 < ((i : Nat) : Int))))) (.int .i64 ((((i : Nat) : Int) - 1)))) :: (fun _ v => v = gv ((((!(((!(nameS z_l_i.name)) || decide (4000 < (((z_l_i.text).length : Nat) : Int)))))) && (decide (0 < ((i : Nat) : Int))))) (.pointer (some ⟨b90, (o91 + (i - 1) * RFile.n), none⟩))) :: (fun _ v => v = gv ((((!(((!(nameS z_l_i.name)) || decide (4000 < (((z_l_i.text).length : Nat) : Int)))))) && (decide (0 < ((i : Nat) : Int))))) (.pointer (some ⟨b90, (o91 + (i - 1) * RFile.n), none⟩))) :: (fun _ v => v = gv ((((!(((!(nameS z_l_i.name)) || decide (4000 < (((z_l_i.text).length : Nat) : Int)))))) && (decide (0 < ((i : Nat) : Int))))) (.string (B (z_l_i_1.name)))) :: (fun _ v => v = gv ((((!(((!(nameS z_l_i.name)) || decide (4000 < (((z_l_i.text).length : Nat) : Int)))))) && (decide (0 < ((i : Nat) : Int))))) (.pointer (some ⟨w2.heap.size, 0, none⟩))) :: (fun _ v => v = gv ((((!(((!(nameS z_l_i.name)) || decide (4000 < (((z_l_i.text).length : Nat) : Int)))))) && (decide (0 < ((i : Nat) : Int))))) (.string (B (z_l_i.name)))) :: []) hS14 (by kernel_rfl) (by kernel_rfl) (MonoFs.pure (MonoFs.pure (MonoFs.pure (MonoFs.pure (MonoFs.pure (MonoFs.pure (MonoFs.pure (MonoFs.pure (MonoFs.pure (MonoFs.pure (MonoFs.pure (MonoFs.pure (MonoFs.pure (MonoFs.pure (MonoFs.pure (MonoFs.pure (MonoFs.pure (MonoFs.pure (MonoFs.pure (MonoFs.pure (MonoFs.pure (MonoFs.pure MonoFs.nil)))))))))))))))))))))) ⟨rfl, rfl, rfl, rfl, rfl, rfl, trivial⟩ ⟨?_, ?_, ?_, ?_, ?_, ?_, ?_, ?_, ?_, ?_, ?_, ?_, ?_, ?_, ?_, ?_, ?_, ?_, ?_, ?_, ?_, ?_, trivial⟩ ?_
      · intro r_ w113 h114 hl115 hS112 hb_ hp_
        obtain ⟨b0_, b1_, b2_, b3_, b4_, b5_, _⟩ := hb_
        refine WL.val1 (R_fieldAddr (b := w2.heap.size) (off := 0) (m := 0) b2_ (fun _ => by kernel_rfl)) ?_
        refine WL.nil ?_
        exact ⟨rfl, _, _, rfl, (Hp.le_refl _), rfl, hS112⟩
      · intro r_ w117 h118 hl119 hS116 hb_ hp_
        obtain ⟨b0_, b1_, b2_, b3_, b4_, b5_, _⟩ := hb_
        obtain ⟨p0_, _⟩ := hp_
        have p0_ : r_ 12 = .pointer (some ⟨w2.heap.size, 0, none⟩) := p0_
        refine WL.val1 (R_load (v := .string (B (z_l_i.name))) p0_ (hS116.has (i := 0) rfl) (Tryd.isAgg9 _) rfl) ?_
        refine WL.nil ?_
        exact ⟨rfl, _, _, rfl, (Hp.le_refl _), rfl, hS116⟩
      · intro r_ w121 h122 hl123 hS120 hb_ hp_
        obtain ⟨b0_, b1_, b2_, b3_, b4_, b5_, _⟩ := hb_
        obtain ⟨p0_, _⟩ := hp_
        have p0_ : r_ 13 = .string (B (z_l_i.name)) := p0_
        refine S_callP (vs := [.string (B (z_l_i.name))]) hS120 Tryd.call53 (hmap1 p0_) (files_Name (z_l_i.name) (by first | assumption | omega)) trivial ?_
        intro w125 hS124
        refine WL.nil ?_
        exact ⟨rfl, _, _, rfl, (Hp.le_refl _), rfl, hS124⟩
      · intro r_ w127 h128 hl129 hS126 hb_ hp_
        obtain ⟨b0_, b1_, b2_, b3_, b4_, b5_, _⟩ := hb_
        obtain ⟨p0_, _⟩ := hp_
        have p0_ : r_ 14 = .bool (nameS z_l_i.name) := p0_
        refine WL.val1 (R_not (b := nameS z_l_i.name) p0_) ?_
        refine WL.nil ?_
        exact ⟨rfl, _, _, rfl, (Hp.le_refl _), rfl, hS126⟩
      · intro r_ w131 h132 hl133 hS130 hb_ hp_
        obtain ⟨b0_, b1_, b2_, b3_, b4_, b5_, _⟩ := hb_
        obtain ⟨p0_, p1_, _⟩ := hp_
        have p0_ : r_ 15 = .bool ((!(nameS z_l_i.name))) := p0_
        have p1_ : r_ 14 = .bool (nameS z_l_i.name) := p1_
        refine WL.val1 (R_move (v := .bool ((!(nameS z_l_i.name)))) p0_) ?_
        refine WL.nil ?_
        exact ⟨rfl, _, _, rfl, (Hp.le_refl _), rfl, hS130⟩
      · intro r_ w135 h136 hl137 hS134 hb_ hp_
        obtain ⟨b0_, b1_, b2_, b3_, b4_, b5_, _⟩ := hb_
        obtain ⟨p0_, _⟩ := hp_
        have p0_ : r_ 16 = .bool ((!(nameS z_l_i.name))) := p0_
        refine WL.gpure (gd := (!((!(nameS z_l_i.name))))) (yl_f (d := 16) rfl p0_) (fun hg => R_fieldAddr (b := w2.heap.size) (off := 0) (m := 1) b2_ (fun _ => by kernel_rfl)) ?_
        refine WL.nil ?_
        exact ⟨rfl, _, _, rfl, (Hp.le_refl _), rfl, hS134⟩
      · intro r_ w139 h140 hl141 hS138 hb_ hp_
        obtain ⟨b0_, b1_, b2_, b3_, b4_, b5_, _⟩ := hb_
        obtain ⟨p0_, p1_, _⟩ := hp_
        have p0_ : r_ 17 = gv ((!((!(nameS z_l_i.name))))) (.pointer (some ⟨w2.heap.size, 1, none⟩)) := p0_
        have p1_ : r_ 16 = .bool ((!(nameS z_l_i.name))) := p1_
        refine WL.gpure (gd := (!((!(nameS z_l_i.name))))) (yl_f (d := 16) rfl p1_) (fun hg => R_load (v := .string (B (z_l_i.text))) (gvT hg p0_) (hS138.has (i := 0) rfl) (Tryd.isAgg9 _) rfl) ?_
        refine WL.nil ?_
        exact ⟨rfl, _, _, rfl, (Hp.le_refl _), rfl, hS138⟩
      · intro r_ w143 h144 hl145 hS142 hb_ hp_
        obtain ⟨b0_, b1_, b2_, b3_, b4_, b5_, _⟩ := hb_
        obtain ⟨p0_, p1_, _⟩ := hp_
        have p0_ : r_ 18 = gv ((!((!(nameS z_l_i.name))))) (.string (B (z_l_i.text))) := p0_
        have p1_ : r_ 16 = .bool ((!(nameS z_l_i.name))) := p1_
        refine WL.gpure (gd := (!((!(nameS z_l_i.name))))) (yl_f (d := 16) rfl p1_) (fun hg => R_slen (a := z_l_i.text) (gvT hg p0_) Tryd.underlying9) ?_
        refine WL.nil ?_
        exact ⟨rfl, _, _, rfl, (Hp.le_refl _), rfl, hS142⟩
      · intro r_ w147 h148 hl149 hS146 hb_ hp_
        obtain ⟨b0_, b1_, b2_, b3_, b4_, b5_, _⟩ := hb_
        obtain ⟨p0_, p1_, _⟩ := hp_
        have p0_ : r_ 19 = gv ((!((!(nameS z_l_i.name))))) (.int .i64 ((((z_l_i.text).length : Nat) : Int))) := p0_
        have p1_ : r_ 16 = .bool ((!(nameS z_l_i.name))) := p1_
        refine WL.gpure (gd := (!((!(nameS z_l_i.name))))) (yl_f (d := 16) rfl p1_) (fun hg => R_gtr (a := (((z_l_i.text).length : Nat) : Int)) (b := 4000) (gvT hg p0_) rfl) ?_
        refine WL.nil ?_
        exact ⟨rfl, _, _, rfl, (Hp.le_refl _), rfl, hS146⟩
      · intro r_ w151 h152 hl153 hS150 hb_ hp_
        obtain ⟨b0_, b1_, b2_, b3_, b4_, b5_, _⟩ := hb_
        obtain ⟨p0_, p1_, _⟩ := hp_
        have p0_ : r_ 16 = .bool ((!(nameS z_l_i.name))) := p0_
        have p1_ : r_ 20 = gv ((!((!(nameS z_l_i.name))))) (.bool (decide (4000 < (((z_l_i.text).length : Nat) : Int)))) := p1_
        refine WL.val1 (R_or (cb := (!(nameS z_l_i.name))) (yb := decide (4000 < (((z_l_i.text).length : Nat) : Int))) p0_ rfl p1_) ?_
        refine WL.nil ?_
        exact ⟨rfl, _, _, rfl, (Hp.le_refl _), rfl, hS150⟩
      · intro r_ w155 h156 hl157 hS154 hb_ hp_
        obtain ⟨b0_, b1_, b2_, b3_, b4_, b5_, _⟩ := hb_
        obtain ⟨p0_, p1_, _⟩ := hp_
        have p0_ : r_ 21 = .bool (((!(nameS z_l_i.name)) || decide (4000 < (((z_l_i.text).length : Nat) : Int)))) := p0_
        have p1_ : r_ 16 = .bool ((!(nameS z_l_i.name))) := p1_
        refine WL.val1 (R_move (v := .bool (((!(nameS z_l_i.name)) || decide (4000 < (((z_l_i.text).length : Nat) : Int))))) p0_) ?_
        refine WL.nil ?_
        exact ⟨rfl, _, _, rfl, (Hp.le_refl _), rfl, hS154⟩
      · intro r_ w159 h160 hl161 hS158 hb_ hp_
        obtain ⟨b0_, b1_, b2_, b3_, b4_, b5_, _⟩ := hb_
        obtain ⟨p0_, _⟩ := hp_
        have p0_ : r_ 22 = .bool (((!(nameS z_l_i.name)) || decide (4000 < (((z_l_i.text).length : Nat) : Int)))) := p0_
        refine WL.gpure (gd := (!(((!(nameS z_l_i.name)) || decide (4000 < (((z_l_i.text).length : Nat) : Int)))))) (yl_f (d := 22) rfl p0_) (fun hg => R_move (v := .int .i64 (((i : Nat) : Int))) b1_) ?_
        refine WL.nil ?_
        exact ⟨rfl, _, _, rfl, (Hp.le_refl _), rfl, hS158⟩
      · intro r_ w163 h164 hl165 hS162 hb_ hp_
        obtain ⟨b0_, b1_, b2_, b3_, b4_, b5_, _⟩ := hb_
        obtain ⟨p0_, p1_, _⟩ := hp_
        have p0_ : r_ 23 = gv ((!(((!(nameS z_l_i.name)) || decide (4000 < (((z_l_i.text).length : Nat) : Int)))))) (.int .i64 (((i : Nat) : Int))) := p0_
        have p1_ : r_ 22 = .bool (((!(nameS z_l_i.name)) || decide (4000 < (((z_l_i.text).length : Nat) : Int)))) := p1_
        refine WL.gpure (gd := (!(((!(nameS z_l_i.name)) || decide (4000 < (((z_l_i.text).length : Nat) : Int)))))) (yl_f (d := 22) rfl p1_) (fun hg => R_gtr (a := ((i : Nat) : Int)) (b := 0) (gvT hg p0_) rfl) ?_
        refine WL.nil ?_
        exact ⟨rfl, _, _, rfl, (Hp.le_refl _), rfl, hS162⟩
      · intro r_ w167 h168 hl169 hS166 hb_ hp_
        obtain ⟨b0_, b1_, b2_, b3_, b4_, b5_, _⟩ := hb_
        obtain ⟨p0_, p1_, p2_, _⟩ := hp_
        have p0_ : r_ 24 = gv ((!(((!(nameS z_l_i.name)) || decide (4000 < (((z_l_i.text).length : Nat) : Int)))))) (.bool (decide (0 < ((i : Nat) : Int)))) := p0_
        have p1_ : r_ 22 = .bool (((!(nameS z_l_i.name)) || decide (4000 < (((z_l_i.text).length : Nat) : Int)))) := p1_
        have p2_ : r_ 22 = .bool (((!(nameS z_l_i.name)) || decide (4000 < (((z_l_i.text).length : Nat) : Int)))) := p2_
        refine WL.gpure (gd := (!(((!(nameS z_l_i.name)) || decide (4000 < (((z_l_i.text).length : Nat) : Int)))))) (yl_f (d := 22) rfl p2_) (fun hg => R_move (v := .bool (decide (0 < ((i : Nat) : Int)))) (gvT hg p0_)) ?_
        refine WL.nil ?_
        exact ⟨rfl, _, _, rfl, (Hp.le_refl _), rfl, hS166⟩
      · intro r_ w171 h172 hl173 hS170 hb_ hp_
        obtain ⟨b0_, b1_, b2_, b3_, b4_, b5_, _⟩ := hb_
        obtain ⟨p0_, _⟩ := hp_
        have p0_ : r_ 25 = gv ((!(((!(nameS z_l_i.name)) || decide (4000 < (((z_l_i.text).length : Nat) : Int)))))) (.bool (decide (0 < ((i : Nat) : Int)))) := p0_
        refine WL.gpure (gd := (((!(((!(nameS z_l_i.name)) || decide (4000 < (((z_l_i.text).length : Nat) : Int)))))) && (decide (0 < ((i : Nat) : Int))))) (ylg_t (d := 25) rfl p0_) (fun hg => R_move (v := .slice (l_a) (l).length (l_c)) b0_) ?_
        refine WL.nil ?_
        exact ⟨rfl, _, _, rfl, (Hp.le_refl _), rfl, hS170⟩
      · intro r_ w175 h176 hl177 hS174 hb_ hp_
        obtain ⟨b0_, b1_, b2_, b3_, b4_, b5_, _⟩ := hb_
        obtain ⟨p0_, _⟩ := hp_
        have p0_ : r_ 25 = gv ((!(((!(nameS z_l_i.name)) || decide (4000 < (((z_l_i.text).length : Nat) : Int)))))) (.bool (decide (0 < ((i : Nat) : Int)))) := p0_
        refine WL.gpure (gd := (((!(((!(nameS z_l_i.name)) || decide (4000 < (((z_l_i.text).length : Nat) : Int)))))) && (decide (0 < ((i : Nat) : Int))))) (ylg_t (d := 25) rfl p0_) (fun hg => R_move (v := .int .i64 (((i : Nat) : Int))) b1_) ?_
        refine WL.nil ?_
        exact ⟨rfl, _, _, rfl, (Hp.le_refl _), rfl, hS174⟩
      · intro r_ w179 h180 hl181 hS178 hb_ hp_
        obtain ⟨b0_, b1_, b2_, b3_, b4_, b5_, _⟩ := hb_
        obtain ⟨p0_, p1_, _⟩ := hp_
        have p0_ : r_ 27 = gv ((((!(((!(nameS z_l_i.name)) || decide (4000 < (((z_l_i.text).length : Nat) : Int)))))) && (decide (0 < ((i : Nat) : Int))))) (.int .i64 (((i : Nat) : Int))) := p0_
        have p1_ : r_ 25 = gv ((!(((!(nameS z_l_i.name)) || decide (4000 < (((z_l_i.text).length : Nat) : Int)))))) (.bool (decide (0 < ((i : Nat) : Int)))) := p1_
        refine WL.gpure (gd := (((!(((!(nameS z_l_i.name)) || decide (4000 < (((z_l_i.text).length : Nat) : Int)))))) && (decide (0 < ((i : Nat) : Int))))) (ylg_t (d := 25) rfl p1_) (fun hg => R_sub_i (a := ((i : Nat) : Int)) (b := 1) (gvT hg p0_) rfl (by have hg_ := ((b_and (b_not (b_or (b_not Iff.rfl) b_dec)) b_dec)).1 hg; omega)) ?_
        refine WL.nil ?_
        exact ⟨rfl, _, _, rfl, (Hp.le_refl _), rfl, hS178⟩
      · intro r_ w183 h184 hl185 hS182 hb_ hp_
        obtain ⟨b0_, b1_, b2_, b3_, b4_, b5_, _⟩ := hb_
        obtain ⟨p0_, p1_, p2_, _⟩ := hp_
        have p0_ : r_ 26 = gv ((((!(((!(nameS z_l_i.name)) || decide (4000 < (((z_l_i.text).length : Nat) : Int)))))) && (decide (0 < ((i : Nat) : Int))))) (.slice (l_a) (l).length (l_c)) := p0_
        have p1_ : r_ 28 = gv ((((!(((!(nameS z_l_i.name)) || decide (4000 < (((z_l_i.text).length : Nat) : Int)))))) && (decide (0 < ((i : Nat) : Int))))) (.int .i64 ((((i : Nat) : Int) - 1))) := p1_
        have p2_ : r_ 25 = gv ((!(((!(nameS z_l_i.name)) || decide (4000 < (((z_l_i.text).length : Nat) : Int)))))) (.bool (decide (0 < ((i : Nat) : Int)))) := p2_
        refine WL.gpure (gd := (((!(((!(nameS z_l_i.name)) || decide (4000 < (((z_l_i.text).length : Nat) : Int)))))) && (decide (0 < ((i : Nat) : Int))))) (ylg_t (d := 25) rfl p2_) (fun hg => R_indexAddrE (i := (((i : Nat) : Int) - 1)) (m := (i - 1)) ha92 (gvT hg p0_) (gvT hg p1_) Tryd.underlying23 (Tryd.sizeOf53 _) (by first | rfl | (have hg_ := ((b_and (b_not (b_or (b_not Iff.rfl) b_dec)) b_dec)).1 hg; omega)) (by have hg_ := ((b_and (b_not (b_or (b_not Iff.rfl) b_dec)) b_dec)).1 hg; omega)) ?_
        refine WL.nil ?_
        exact ⟨rfl, _, _, rfl, (Hp.le_refl _), rfl, hS182⟩
      · intro r_ w187 h188 hl189 hS186 hb_ hp_
        obtain ⟨b0_, b1_, b2_, b3_, b4_, b5_, _⟩ := hb_
        obtain ⟨p0_, p1_, _⟩ := hp_
        have p0_ : r_ 29 = gv ((((!(((!(nameS z_l_i.name)) || decide (4000 < (((z_l_i.text).length : Nat) : Int)))))) && (decide (0 < ((i : Nat) : Int))))) (.pointer (some ⟨b90, (o91 + (i - 1) * RFile.n), none⟩)) := p0_
        have p1_ : r_ 25 = gv ((!(((!(nameS z_l_i.name)) || decide (4000 < (((z_l_i.text).length : Nat) : Int)))))) (.bool (decide (0 < ((i : Nat) : Int)))) := p1_
        refine WL.gpure (gd := (((!(((!(nameS z_l_i.name)) || decide (4000 < (((z_l_i.text).length : Nat) : Int)))))) && (decide (0 < ((i : Nat) : Int))))) (ylg_t (d := 25) rfl p1_) (fun hg => R_fieldAddr (b := b90) (off := (o91 + (i - 1) * RFile.n)) (m := 0) (gvT hg p0_) (fun _ => by kernel_rfl)) ?_
        refine WL.nil ?_
        exact ⟨rfl, _, _, rfl, (Hp.le_refl _), rfl, hS186⟩
      · intro r_ w191 h192 hl193 hS190 hb_ hp_
        obtain ⟨b0_, b1_, b2_, b3_, b4_, b5_, _⟩ := hb_
        obtain ⟨p0_, p1_, _⟩ := hp_
        have p0_ : r_ 30 = gv ((((!(((!(nameS z_l_i.name)) || decide (4000 < (((z_l_i.text).length : Nat) : Int)))))) && (decide (0 < ((i : Nat) : Int))))) (.pointer (some ⟨b90, (o91 + (i - 1) * RFile.n), none⟩)) := p0_
        have p1_ : r_ 25 = gv ((!(((!(nameS z_l_i.name)) || decide (4000 < (((z_l_i.text).length : Nat) : Int)))))) (.bool (decide (0 < ((i : Nat) : Int)))) := p1_
        refine WL.gpure (gd := (((!(((!(nameS z_l_i.name)) || decide (4000 < (((z_l_i.text).length : Nat) : Int)))))) && (decide (0 < ((i : Nat) : Int))))) (ylg_t (d := 25) rfl p1_) (fun hg => R_loadC (v := .string (B (z_l_i_1.name))) hS190 (gvT hg p0_) ((hat94.mono hl193).sub 0 1 (cs' := [.string (B (z_l_i_1.name))]) rfl) Tryd.isAgg9 rfl) ?_
        refine WL.nil ?_
        exact ⟨rfl, _, _, rfl, (Hp.le_refl _), rfl, hS190⟩
      · intro r_ w195 h196 hl197 hS194 hb_ hp_
        obtain ⟨b0_, b1_, b2_, b3_, b4_, b5_, _⟩ := hb_
        obtain ⟨p0_, _⟩ := hp_
        have p0_ : r_ 25 = gv ((!(((!(nameS z_l_i.name)) || decide (4000 < (((z_l_i.text).length : Nat) : Int)))))) (.bool (decide (0 < ((i : Nat) : Int)))) := p0_
        refine WL.gpure (gd := (((!(((!(nameS z_l_i.name)) || decide (4000 < (((z_l_i.text).length : Nat) : Int)))))) && (decide (0 < ((i : Nat) : Int))))) (ylg_t (d := 25) rfl p0_) (fun hg => R_fieldAddr (b := w2.heap.size) (off := 0) (m := 0) b2_ (fun _ => by kernel_rfl)) ?_
        refine WL.nil ?_
        exact ⟨rfl, _, _, rfl, (Hp.le_refl _), rfl, hS194⟩
      · intro r_ w199 h200 hl201 hS198 hb_ hp_
        obtain ⟨b0_, b1_, b2_, b3_, b4_, b5_, _⟩ := hb_
        obtain ⟨p0_, p1_, _⟩ := hp_
        have p0_ : r_ 32 = gv ((((!(((!(nameS z_l_i.name)) || decide (4000 < (((z_l_i.text).length : Nat) : Int)))))) && (decide (0 < ((i : Nat) : Int))))) (.pointer (some ⟨w2.heap.size, 0, none⟩)) := p0_
        have p1_ : r_ 25 = gv ((!(((!(nameS z_l_i.name)) || decide (4000 < (((z_l_i.text).length : Nat) : Int)))))) (.bool (decide (0 < ((i : Nat) : Int)))) := p1_
        refine WL.gpure (gd := (((!(((!(nameS z_l_i.name)) || decide (4000 < (((z_l_i.text).length : Nat) : Int)))))) && (decide (0 < ((i : Nat) : Int))))) (ylg_t (d := 25) rfl p1_) (fun hg => R_load (v := .string (B (z_l_i.name))) (gvT hg p0_) (hS198.has (i := 0) rfl) (Tryd.isAgg9 _) rfl) ?_
        refine WL.nil ?_
        exact ⟨rfl, _, _, rfl, (Hp.le_refl _), rfl, hS198⟩
      · intro r_ w203 h204 hl205 hS202 hb_ hf_
        obtain ⟨b0_, b1_, b2_, b3_, b4_, b5_, _⟩ := hb_
        obtain ⟨q0_, q1_, q2_, q3_, q4_, q5_, q6_, q7_, q8_, q9_, q10_, q11_, q12_, q13_, q14_, q15_, q16_, q17_, q18_, q19_, q20_, q21_, _⟩ := hf_
        refine WL.frame (((0, .slice (l_a) (l).length (l_c))) :: ((3, .int .i64 (((i : Nat) : Int)))) :: ((4, .pointer (some ⟨w2.heap.size, 0, none⟩))) :: ((5, .slice (l_a) (l).length (l_c))) :: ((6, .int .i64 ((((l).length : Nat) : Int)))) :: ((7, .int .i64 (((i : Nat) : Int)))) :: ((12, .pointer (some ⟨w2.heap.size, 0, none⟩))) :: ((13, .string (B (z_l_i.name)))) :: ((14, .bool (nameS z_l_i.name))) :: ((15, .bool ((!(nameS z_l_i.name))))) :: ((16, .bool ((!(nameS z_l_i.name))))) :: ((17, gv ((!((!(nameS z_l_i.name))))) (.pointer (some ⟨w2.heap.size, 1, none⟩)))) :: ((18, gv ((!((!(nameS z_l_i.name))))) (.string (B (z_l_i.text))))) :: ((19, gv ((!((!(nameS z_l_i.name))))) (.int .i64 ((((z_l_i.text).length : Nat) : Int))))) :: ((20, gv ((!((!(nameS z_l_i.name))))) (.bool (decide (4000 < (((z_l_i.text).length : Nat) : Int)))))) :: ((21, .bool (((!(nameS z_l_i.name)) || decide (4000 < (((z_l_i.text).length : Nat) : Int)))))) :: ((22, .bool (((!(nameS z_l_i.name)) || decide (4000 < (((z_l_i.text).length : Nat) : Int)))))) :: ((23, gv ((!(((!(nameS z_l_i.name)) || decide (4000 < (((z_l_i.text).length : Nat) : Int)))))) (.int .i64 (((i : Nat) : Int))))) :: ((24, gv ((!(((!(nameS z_l_i.name)) || decide (4000 < (((z_l_i.text).length : Nat) : Int)))))) (.bool (decide (0 < ((i : Nat) : Int)))))) :: ((25, gv ((!(((!(nameS z_l_i.name)) || decide (4000 < (((z_l_i.text).length : Nat) : Int)))))) (.bool (decide (0 < ((i : Nat) : Int)))))) :: ((26, gv ((((!(((!(nameS z_l_i.name)) || decide (4000 < (((z_l_i.text).length : Nat) : Int)))))) && (decide (0 < ((i : Nat) : Int))))) (.slice (l_a) (l).length (l_c)))) :: ((27, gv ((((!(((!(nameS z_l_i.name)) || decide (4000 < (((z_l_i.text).length : Nat) : Int)))))) && (decide (0 < ((i : Nat) : Int))))) (.int .i64 (((i : Nat) : Int))))) :: ((28, gv ((((!(((!(nameS z_l_i.name)) || decide (4000 < (((z_l_i.text).length : Nat) : Int)))))) && (decide (0 < ((i : Nat) : Int))))) (.int .i64 ((((i : Nat) : Int) - 1))))) :: ((29, gv ((((!(((!(nameS z_l_i.name)) || decide (4000 < (((z_l_i.text).length : Nat) : Int)))))) && (decide (0 < ((i : Nat) : Int))))) (.pointer (some ⟨b90, (o91 + (i - 1) * RFile.n), none⟩)))) :: ((30, gv ((((!(((!(nameS z_l_i.name)) || decide (4000 < (((z_l_i.text).length : Nat) : Int)))))) && (decide (0 < ((i : Nat) : Int))))) (.pointer (some ⟨b90, (o91 + (i - 1) * RFile.n), none⟩)))) :: ((31, gv ((((!(((!(nameS z_l_i.name)) || decide (4000 < (((z_l_i.text).length : Nat) : Int)))))) && (decide (0 < ((i : Nat) : Int))))) (.string (B (z_l_i_1.name))))) :: ((32, gv ((((!(((!(nameS z_l_i.name)) || decide (4000 < (((z_l_i.text).length : Nat) : Int)))))) && (decide (0 < ((i : Nat) : Int))))) (.pointer (some ⟨w2.heap.size, 0, none⟩)))) :: ((33, gv ((((!(((!(nameS z_l_i.name)) || decide (4000 < (((z_l_i.text).length : Nat) : Int)))))) && (decide (0 < ((i : Nat) : Int))))) (.string (B (z_l_i.name))))) :: []) ⟨b0_, b1_, b2_, b3_, b4_, b5_, q0_, q1_, q2_, q3_, q4_, q5_, q6_, q7_, q8_, q9_, q10_, q11_, q12_, q13_, q14_, q15_, q16_, q17_, q18_, q19_, q20_, q21_, trivial⟩ (fun r_ => ?_)
        refine WL.gpure (gd := (((!(((!(nameS z_l_i.name)) || decide (4000 < (((z_l_i.text).length : Nat) : Int)))))) && (decide (0 < ((i : Nat) : Int))))) (ylg_t (d := 25) rfl rfl) (fun hg => R_sgeq (a := z_l_i_1.name) (b := z_l_i.name) (gvT hg rfl) (gvT hg rfl)) ?_
        refine WL.gpure (gd := (!(((!(nameS z_l_i.name)) || decide (4000 < (((z_l_i.text).length : Nat) : Int)))))) (yl_f (d := 22) rfl rfl) (fun hg => R_and (cb := decide (0 < ((i : Nat) : Int))) (yb := (!(Op.bytesLess z_l_i_1.name z_l_i.name))) (gvT hg rfl) (gvA hg rfl) rfl) ?_
        refine WL.val1 (R_or (cb := ((!(nameS z_l_i.name)) || decide (4000 < (((z_l_i.text).length : Nat) : Int)))) (yb := (decide (0 < ((i : Nat) : Int)) && (!(Op.bytesLess z_l_i_1.name z_l_i.name)))) rfl rfl rfl) ?_
        refine WL.nil ?_
        refine then_normal ?_
        refine WC.condI (((¬ ((nameS z_l_i.name) = true) ∨ 4000 < (((z_l_i.text).length : Nat) : Int)) ∨ (0 < ((i : Nat) : Int) ∧ ¬ ((Op.bytesLess z_l_i_1.name z_l_i.name) = true)))) (b := (((!(nameS z_l_i.name)) || decide (4000 < (((z_l_i.text).length : Nat) : Int))) || (decide (0 < ((i : Nat) : Int)) && (!(Op.bytesLess z_l_i_1.name z_l_i.name))))) rfl (b_or (b_or (b_not Iff.rfl) b_dec) (b_and b_dec (b_not Iff.rfl))) (fun c1 => ?_) (fun c1 => ?_)
        · skip
          refine WC.seq ?_
          refine WC.region ?_
          refine WL.val1 (R_assign (v := .bool (false)) rfl) ?_
          refine WL.nil ?_
          refine then_normal ?_
          refine WC.ret ?_
          refine block_ret ?_
          refine then_ret ?_
          refine then_ret ?_
          refine block_ret ?_
          refine then_ret ?_
          refine top_ret (.bool (false)) (gives1 rfl rfl) ?_
          exact ⟨(by apply congrArg Value.bool; rcases c1 with c1 | c1; (rw [rightS, ← f2, rightF_no1 _ hz_l_i (c1.imp (by simp) (by omega))]; rfl); (rw [rightS, ← f2, rightF_no2 hz_l_i (by omega) hz_l_i_1 (by simpa using c1.2)]; rfl)), (hS202.pop.weaken_h (hl4.trans hl205))⟩
        · skip
          refine WC.skip ?_
          refine block_normal ?_
          refine then_normal ?_
          refine WC.region ?_
          refine WL.val1 (R_add_i (a := ((i : Nat) : Int)) (b := 1) rfl rfl (by omega)) ?_
          refine WL.val1 (R_move (v := .int .i64 ((((i : Nat) : Int) + 1))) rfl) ?_
          refine WL.nil ?_
          refine then_normal ?_
          exact ⟨(i + 1), ⟨rfl, rfl, rfl, (by first | rfl | (apply congrArg (Value.int .i64); omega) | simp), trivial⟩, ⟨h204, (hl4.trans hl205), hS202.pop, (by (try dsimp only); first | assumption | omega | simp), (by (try dsimp only); rw [← f2]; exact (rightF_yes hz_l_i (Decidable.byContradiction fun hh => c1 (.inl (.inl hh))) (by omega) (fun y h0 hy => by rw [hz_l_i_1] at hy; injection hy with hy; subst hy; exact Decidable.byContradiction fun hh => c1 (.inr ⟨by omega, hh⟩))).symm)⟩, (by first | (simp only []; omega) | (simp; omega))⟩
    · skip
      refine WC.exit ?_
      refine then_exit ?_
      refine then_exit ?_
      refine block_exit ?_
      refine then_normal ?_
      refine WC.seq ?_
      refine WC.region ?_
      refine WL.val1 (R_move (v := .slice (l_a) (l).length (l_c)) rfl) ?_
      refine WL.val1 (R_len_slice (n := (l).length) rfl Tryd.underlying23) ?_
      refine WL.val1 (R_leq (a := (((l).length : Nat) : Int)) (b := 32) rfl rfl) ?_
      refine WL.val1 (R_assign (v := .bool (decide ((((l).length : Nat) : Int) ≤ 32))) rfl) ?_
      refine WL.nil ?_
      refine then_normal ?_
      refine WC.ret ?_
      refine top_ret (.bool (decide ((((l).length : Nat) : Int) ≤ 32))) (gives1 rfl rfl) ?_
      exact ⟨(by apply congrArg Value.bool; rw [rightS, ← f2, rightF_end _ (by omega), Bool.true_and]; exact decide_eq_decide.2 (by omega)), (hS1.weaken_h hl4)⟩
set_option maxHeartbeats 400000 in
theorem wire_Parse (s : Str) (hs : s.length ≤ 1000) : FnC GG Tryd.prog 45 (fun _ => True) [.string (B (s))] (fun h v => ∃ (a : Option Addr) (c : Nat), v = .tuple #[.slice (a) ((parseS s).1).length (c), .int .i64 ((parseS s).2)] ∧ (Sl RFile h (parseS s).1 a c)) := by
  intro Γ h L w hpre hS
  have hb := allS_bd s
  have hp := allS_pairs_bd s hs
  refine Ret.body Tryd.func45 rfl Tryd.ntmps45 (Nat.le_of_ble_eq_true rfl) ?_
  refine WC.seq ?_
  refine WC.region ?_
  refine WL.val1 (R_assign (v := .slice none 0 0) rfl) ?_
  refine WL.val1 (R_assign (v := .int .i64 (0)) rfl) ?_
  refine WL.nil ?_
  refine then_normal ?_
  refine WC.seq ?_
  refine WC.region ?_
  refine WL.val1 (R_move (v := .string (B (s))) rfl) ?_
  refine S_callF (vs := [.string (B (s))]) hS Tryd.call44 rfl (wire_All (s) (by first | omega | exact fun x hx => hp.big x (by rw [f4] at hx; exact hx) | (have := hp.1; rw [f4]; omega))) trivial ?_
  intro h3 v5 w2 hl4 hp6 hS1
  obtain ⟨a7, c8, rfl, hf9⟩ := hp6
  refine WL.val1 (R_move (v := .tuple #[.slice (a7) ((allS s).1).length (c8), .int .i64 ((allS s).2)]) rfl) ?_
  refine WL.val1 (R_extract (vs := ([.slice (a7) ((allS s).1).length (c8), .int .i64 ((allS s).2)] : List Value).toArray) (v := .slice (a7) ((allS s).1).length (c8)) rfl rfl) ?_
  refine WL.val1 (R_extract (vs := ([.slice (a7) ((allS s).1).length (c8), .int .i64 ((allS s).2)] : List Value).toArray) (v := .int .i64 ((allS s).2)) rfl rfl) ?_
  refine WL.val1 (R_assign (v := .slice (a7) ((allS s).1).length (c8)) rfl) ?_
  refine WL.val1 (R_assign (v := .int .i64 ((allS s).2)) rfl) ?_
  refine WL.nil ?_
  refine then_normal ?_
  refine WC.seq ?_
  refine WC.seq ?_
  refine WC.region ?_
  refine WL.val1 (R_move (v := .int .i64 ((allS s).2)) rfl) ?_
  refine WL.val1 (R_neq (a := (allS s).2) (b := 0) rfl rfl) ?_
  refine WL.nil ?_
  refine then_normal ?_
  refine WC.condP ((allS s).2 ≠ 0) rfl (fun c0 => ?_) (fun c0 => ?_)
  · skip
    refine WC.seq ?_
    refine WC.region ?_
    refine WL.val1 (R_move (v := .int .i64 ((allS s).2)) rfl) ?_
    refine WL.val1 (R_assign (v := .slice none 0 0) rfl) ?_
    refine WL.val1 (R_assign (v := .int .i64 ((allS s).2)) rfl) ?_
    refine WL.nil ?_
    refine then_normal ?_
    refine WC.ret ?_
    refine then_ret ?_
    refine top_ret (.tuple #[.slice none 0 0, .int .i64 ((allS s).2)]) (gives2 rfl rfl rfl) ?_
    have e_ : parseS s = ([], (allS s).2) := by unfold parseS; rw [if_pos (by omega)]
    exact ⟨h3, hl4, ⟨none, 0, (by first | rfl | (rw [e_]; done) | (rw [e_]; rfl) | (simp; done)), (by first | exact Sl.nil _ _ _ _ | (rw [e_]; exact Sl.nil _ _ _ _))⟩, hS1⟩
  · skip
    refine WC.skip ?_
    refine then_normal ?_
    refine WC.seq ?_
    refine WC.seq ?_
    refine WC.region ?_
    refine WL.val1 (R_move (v := .slice (a7) ((allS s).1).length (c8)) rfl) ?_
    refine WL.val1 (R_len_slice (n := ((allS s).1).length) rfl Tryd.underlying24) ?_
    refine WL.val1 (R_rem_i (a := ((((allS s).1).length : Nat) : Int)) (b := 2) rfl rfl (by omega) (by omega)) ?_
    refine WL.val1 (R_neq (a := (((((allS s).1).length : Nat) : Int) % 2)) (b := 0) rfl rfl) ?_
    refine WL.nil ?_
    refine then_normal ?_
    refine WC.condP ((((((allS s).1).length : Nat) : Int) % 2) ≠ 0) rfl (fun c1 => ?_) (fun c1 => ?_)
    · skip
      refine WC.seq ?_
      refine WC.region ?_
      refine WL.val1 (R_assign (v := .slice none 0 0) rfl) ?_
      refine WL.val1 (R_assign (v := .int .i64 (5)) rfl) ?_
      refine WL.nil ?_
      refine then_normal ?_
      refine WC.ret ?_
      refine then_ret ?_
      refine top_ret (.tuple #[.slice none 0 0, .int .i64 (5)]) (gives2 rfl rfl rfl) ?_
      have e_ : parseS s = ([], 5) := by unfold parseS; rw [if_neg (by omega), if_pos (.inl (by omega))]
      exact ⟨h3, hl4, ⟨none, 0, (by first | rfl | (rw [e_]; done) | (rw [e_]; rfl) | (simp; done)), (by first | exact Sl.nil _ _ _ _ | (rw [e_]; exact Sl.nil _ _ _ _))⟩, hS1⟩
    · skip
      refine WC.skip ?_
      refine then_normal ?_
      refine WC.seq ?_
      refine WC.region ?_
      refine WL.val1 (R_assign (v := .slice none 0 0) rfl) ?_
      refine WL.nil ?_
      refine then_normal ?_
      refine WC.seq ?_
      refine WC.seq ?_
      refine WC.region ?_
      refine WL.val1 (R_assign (v := .int .i64 (0)) rfl) ?_
      refine WL.nil ?_
      refine then_normal ?_
      refine WC.block ?_
      have hS10 := hS1.growNil 53 RFile h3
      refine WC.loopL (σ := Nat × (List File) × (Option Addr) × Nat)
        (fun (q_ : Nat × (List File) × (Option Addr) × Nat) => (fun (i : Nat) (acc : List File) (acc_a : Option Addr) (acc_c : Nat) => [(4, .slice (a7) ((allS s).1).length (c8)), (6, .slice (acc_a) (acc).length (acc_c)), (7, .int .i64 (((i : Nat) : Int)))]) (q_.1) (q_.2.1) (q_.2.2.1) (q_.2.2.2))
        (fun (q_ : Nat × (List File) × (Option Addr) × Nat) (w_ : World) => (fun (i : Nat) (acc : List File) (acc_a : Option Addr) (acc_c : Nat) => ∃ h13 : Hp, h3.le h13 ∧ St Γ h13 (grow 53 RFile h13 (acc) (acc_a) (acc_c) :: L) w_ ∧ (i ≤ (allS s).1.length ∧ i % 2 = 0) ∧ (acc.length ≤ i) ∧ (acc ++ pairsS ((allS s).1.drop i) = pairsS (allS s).1)) (q_.1) (q_.2.1) (q_.2.2.1) (q_.2.2.2))
        (fun (q_ : Nat × (List File) × (Option Addr) × Nat) => (fun (i : Nat) (acc : List File) (acc_a : Option Addr) (acc_c : Nat) => (allS s).1.length + 1 - i) (q_.1) (q_.2.1) (q_.2.2.1) (q_.2.2.2)) (0, ([] : List File), none, 0) ?_ ?_ ?_
      · exact ⟨rfl, (by first | rfl | (apply congrArg (Value.int .i64); omega) | simp), (by first | rfl | (apply congrArg (Value.int .i64); omega) | simp), trivial⟩
      · exact ⟨h3, Hp.le_refl _, hS10, (by first | assumption | omega | simp), (by first | assumption | omega | simp), (by rfl)⟩
      · rintro ⟨i, acc, acc_a, acc_c⟩ r15 w12 ⟨h13, hl14, hS11, f1, f2, f3⟩
        try dsimp only at f1 f2 f3
        refine WC.seq ?_
        refine WC.seq ?_
        refine WC.region ?_
        refine WL.val1 (R_move (v := .int .i64 (((i : Nat) : Int))) rfl) ?_
        refine WL.val1 (R_move (v := .slice (a7) ((allS s).1).length (c8)) rfl) ?_
        refine WL.val1 (R_len_slice (n := ((allS s).1).length) rfl Tryd.underlying24) ?_
        refine WL.val1 (R_lss (a := ((i : Nat) : Int)) (b := ((((allS s).1).length : Nat) : Int)) rfl rfl) ?_
        refine WL.nil ?_
        refine then_normal ?_
        refine WC.condP (((i : Nat) : Int) < ((((allS s).1).length : Nat) : Int)) rfl (fun c2 => ?_) (fun c2 => ?_)
        · skip
          refine WC.skip ?_
          refine then_normal ?_
          refine WC.seq ?_
          refine WC.block ?_
          obtain ⟨z_allS_s_1_i, hz_allS_s_1_i⟩ : ∃ z, ((allS s).1)[i]? = some z := ⟨_, List.getElem?_eq_getElem (by omega)⟩
          obtain ⟨b32, o33, cs37, ha34, hr35, hat36⟩ := (hf9.mono hl14).2 i z_allS_s_1_i hz_allS_s_1_i
          subst hr35
          obtain ⟨z_allS_s_1_i_1, hz_allS_s_1_i_1⟩ : ∃ z, ((allS s).1)[(i + 1)]? = some z := ⟨_, List.getElem?_eq_getElem (by omega)⟩
          obtain ⟨b58, o59, cs63, ha60, hr61, hat62⟩ := (hf9.mono hl14).2 (i + 1) z_allS_s_1_i_1 hz_allS_s_1_i_1
          subst hr61
          refine WC.draw 12 [(4, .slice (a7) ((allS s).1).length (c8)), (6, .slice (acc_a) (acc).length (acc_c)), (7, .int .i64 (((i : Nat) : Int)))] [fun _ v => v = .slice (acc_a) (acc).length (acc_c), fun _ v => v = .slice (a7) ((allS s).1).length (c8), fun _ v => v = .int .i64 (((i : Nat) : Int)), fun _ v => v = .pointer (some ⟨b32, (o33 + i * Rstr.n), none⟩), fun _ v => v = .string (B (z_allS_s_1_i)), fun _ v => v = .slice (a7) ((allS s).1).length (c8), fun _ v => v = .int .i64 (((i : Nat) : Int)), fun _ v => v = .int .i64 ((((i : Nat) : Int) + 1)), fun _ v => v = .pointer (some ⟨b58, (o59 + (i + 1) * Rstr.n), none⟩), fun _ v => v = .string (B (z_allS_s_1_i_1)), fun _ v => v = .agg #[.string (B (z_allS_s_1_i)), .string (B (z_allS_s_1_i_1))], fun h v => ∃ (b0_ : Nat), v = .slice (some ⟨b0_, 0, none⟩) 1 (1) ∧ Sl RFile h ([{ name := z_allS_s_1_i, text := z_allS_s_1_i_1 : File }]) (some ⟨b0_, 0, none⟩) (1)] hS11 (by kernel_rfl) (by kernel_rfl) (MonoFs.pure (MonoFs.pure (MonoFs.pure (MonoFs.pure (MonoFs.pure (MonoFs.pure (MonoFs.pure (MonoFs.pure (MonoFs.pure (MonoFs.pure (MonoFs.pure (MonoFs.cons (fun _ _ _ hl ⟨x0, e, y0⟩ => ⟨x0, e, y0.mono hl⟩) MonoFs.nil)))))))))))) ⟨rfl, rfl, rfl, trivial⟩ ⟨?_, ?_, ?_, ?_, ?_, ?_, ?_, ?_, ?_, ?_, ?_, ?_, trivial⟩ ?_
          · intro r_ w86 h87 hl88 hS85 hb_ hp_
            obtain ⟨b0_, b1_, b2_, _⟩ := hb_
            refine WL.val1 (R_move (v := .slice (acc_a) (acc).length (acc_c)) b1_) ?_
            refine WL.nil ?_
            exact ⟨rfl, _, _, rfl, (Hp.le_refl _), rfl, hS85⟩
          · intro r_ w90 h91 hl92 hS89 hb_ hp_
            obtain ⟨b0_, b1_, b2_, _⟩ := hb_
            refine WL.val1 (R_move (v := .slice (a7) ((allS s).1).length (c8)) b0_) ?_
            refine WL.nil ?_
            exact ⟨rfl, _, _, rfl, (Hp.le_refl _), rfl, hS89⟩
          · intro r_ w94 h95 hl96 hS93 hb_ hp_
            obtain ⟨b0_, b1_, b2_, _⟩ := hb_
            refine WL.val1 (R_move (v := .int .i64 (((i : Nat) : Int))) b2_) ?_
            refine WL.nil ?_
            exact ⟨rfl, _, _, rfl, (Hp.le_refl _), rfl, hS93⟩
          · intro r_ w98 h99 hl100 hS97 hb_ hp_
            obtain ⟨b0_, b1_, b2_, _⟩ := hb_
            obtain ⟨p0_, p1_, _⟩ := hp_
            have p0_ : r_ 27 = .slice (a7) ((allS s).1).length (c8) := p0_
            have p1_ : r_ 28 = .int .i64 (((i : Nat) : Int)) := p1_
            refine WL.val1 (R_indexAddrE (i := ((i : Nat) : Int)) (m := i) ha34 p0_ p1_ Tryd.underlying24 (Tryd.sizeOf9 _) (by first | rfl | (omega)) (by omega)) ?_
            refine WL.nil ?_
            exact ⟨rfl, _, _, rfl, (Hp.le_refl _), rfl, hS97⟩
          · intro r_ w102 h103 hl104 hS101 hb_ hp_
            obtain ⟨b0_, b1_, b2_, _⟩ := hb_
            obtain ⟨p0_, _⟩ := hp_
            have p0_ : r_ 29 = .pointer (some ⟨b32, (o33 + i * Rstr.n), none⟩) := p0_
            refine WL.val1 (R_loadC (v := .string (B (z_allS_s_1_i))) hS101 p0_ (hat36.mono hl104) Tryd.isAgg9 rfl) ?_
            refine WL.nil ?_
            exact ⟨rfl, _, _, rfl, (Hp.le_refl _), rfl, hS101⟩
          · intro r_ w106 h107 hl108 hS105 hb_ hp_
            obtain ⟨b0_, b1_, b2_, _⟩ := hb_
            refine WL.val1 (R_move (v := .slice (a7) ((allS s).1).length (c8)) b0_) ?_
            refine WL.nil ?_
            exact ⟨rfl, _, _, rfl, (Hp.le_refl _), rfl, hS105⟩
          · intro r_ w110 h111 hl112 hS109 hb_ hp_
            obtain ⟨b0_, b1_, b2_, _⟩ := hb_
            refine WL.val1 (R_move (v := .int .i64 (((i : Nat) : Int))) b2_) ?_
            refine WL.nil ?_
            exact ⟨rfl, _, _, rfl, (Hp.le_refl _), rfl, hS109⟩
          · intro r_ w114 h115 hl116 hS113 hb_ hp_
            obtain ⟨b0_, b1_, b2_, _⟩ := hb_
            obtain ⟨p0_, _⟩ := hp_
            have p0_ : r_ 32 = .int .i64 (((i : Nat) : Int)) := p0_
            refine WL.val1 (R_add_i (a := ((i : Nat) : Int)) (b := 1) p0_ rfl (by omega)) ?_
            refine WL.nil ?_
            exact ⟨rfl, _, _, rfl, (Hp.le_refl _), rfl, hS113⟩
          · intro r_ w118 h119 hl120 hS117 hb_ hp_
            obtain ⟨b0_, b1_, b2_, _⟩ := hb_
            obtain ⟨p0_, p1_, _⟩ := hp_
            have p0_ : r_ 31 = .slice (a7) ((allS s).1).length (c8) := p0_
            have p1_ : r_ 33 = .int .i64 ((((i : Nat) : Int) + 1)) := p1_
            refine WL.val1 (R_indexAddrE (i := (((i : Nat) : Int) + 1)) (m := (i + 1)) ha60 p0_ p1_ Tryd.underlying24 (Tryd.sizeOf9 _) (by first | rfl | (omega)) (by omega)) ?_
            refine WL.nil ?_
            exact ⟨rfl, _, _, rfl, (Hp.le_refl _), rfl, hS117⟩
          · intro r_ w122 h123 hl124 hS121 hb_ hp_
            obtain ⟨b0_, b1_, b2_, _⟩ := hb_
            obtain ⟨p0_, _⟩ := hp_
            have p0_ : r_ 34 = .pointer (some ⟨b58, (o59 + (i + 1) * Rstr.n), none⟩) := p0_
            refine WL.val1 (R_loadC (v := .string (B (z_allS_s_1_i_1))) hS121 p0_ (hat62.mono hl124) Tryd.isAgg9 rfl) ?_
            refine WL.nil ?_
            exact ⟨rfl, _, _, rfl, (Hp.le_refl _), rfl, hS121⟩
          · intro r_ w126 h127 hl128 hS125 hb_ hp_
            obtain ⟨b0_, b1_, b2_, _⟩ := hb_
            obtain ⟨p0_, p1_, _⟩ := hp_
            have p0_ : r_ 30 = .string (B (z_allS_s_1_i)) := p0_
            have p1_ : r_ 35 = .string (B (z_allS_s_1_i_1)) := p1_
            refine WL.val1 (R_build (vs := [(0, .string (B (z_allS_s_1_i))), (1, .string (B (z_allS_s_1_i_1)))]) (v := .agg #[.string (B (z_allS_s_1_i)), .string (B (z_allS_s_1_i_1))]) (pmap2 p0_ p1_) (fun _ => by kernel_rfl)) ?_
            refine WL.nil ?_
            exact ⟨rfl, _, _, rfl, (Hp.le_refl _), rfl, hS125⟩
          · intro r_ w130 h131 hl132 hS129 hb_ hp_
            obtain ⟨b0_, b1_, b2_, _⟩ := hb_
            obtain ⟨p0_, _⟩ := hp_
            have p0_ : r_ 36 = .agg #[.string (B (z_allS_s_1_i)), .string (B (z_allS_s_1_i_1))] := p0_
            refine S_buildSliceC (R := RFile) (m := 1) (vs := [(0, .agg #[.string (B (z_allS_s_1_i)), .string (B (z_allS_s_1_i_1))])]) (cells := [.string (B (z_allS_s_1_i)), .string (B (z_allS_s_1_i_1))]) (xs := [{ name := z_allS_s_1_i, text := z_allS_s_1_i_1 : File }]) hS129 Tryd.underlying23 Tryd.sizeOf53 Tryd.zeroValue53 (by decide) (by decide) (pmap1 (v := .agg #[.string (B (z_allS_s_1_i)), .string (B (z_allS_s_1_i_1))]) p0_) (by kernel_rfl) (by exact (⟨[.string (B (z_allS_s_1_i)), .string (B (z_allS_s_1_i_1))], _, rfl, rfl, rfl⟩ : Flat RFile _ [{ name := z_allS_s_1_i, text := z_allS_s_1_i_1 : File }] _)) rfl ?_
            intro h135 b137 w134 hl136 hs138 hS133
            refine WL.nil ?_
            exact ⟨rfl, _, _, rfl, hl136, ⟨b137, rfl, hs138⟩, hS133⟩
          · intro r_ w142 h143 hl144 hS141 hb_ hf_
            obtain ⟨b0_, b1_, b2_, _⟩ := hb_
            obtain ⟨q0_, q1_, q2_, q3_, q4_, q5_, q6_, q7_, q8_, q9_, q10_, q11_, _⟩ := hf_
            obtain ⟨b145, q11_, hs146⟩ := q11_
            refine WL.frame [(4, .slice (a7) ((allS s).1).length (c8)), (6, .slice (acc_a) (acc).length (acc_c)), (7, .int .i64 (((i : Nat) : Int))), (26, .slice (acc_a) (acc).length (acc_c)), (27, .slice (a7) ((allS s).1).length (c8)), (28, .int .i64 (((i : Nat) : Int))), (29, .pointer (some ⟨b32, (o33 + i * Rstr.n), none⟩)), (30, .string (B (z_allS_s_1_i))), (31, .slice (a7) ((allS s).1).length (c8)), (32, .int .i64 (((i : Nat) : Int))), (33, .int .i64 ((((i : Nat) : Int) + 1))), (34, .pointer (some ⟨b58, (o59 + (i + 1) * Rstr.n), none⟩)), (35, .string (B (z_allS_s_1_i_1))), (36, .agg #[.string (B (z_allS_s_1_i)), .string (B (z_allS_s_1_i_1))]), (37, .slice (some ⟨b145, 0, none⟩) 1 (1))] ⟨b0_, b1_, b2_, q0_, q1_, q2_, q3_, q4_, q5_, q6_, q7_, q8_, q9_, q10_, q11_, trivial⟩ (fun r_ => ?_)
            refine S_append (info := Tryd.t53) (R := RFile) (xs := acc) (ys := [{ name := z_allS_s_1_i, text := z_allS_s_1_i_1 : File }]) (a := acc_a) (c := acc_c) 0 Tryd.underlying23 (by kernel_rfl) rfl rfl rfl (by decide) 32 rfl hS141 rfl hl144 hs146 rfl rfl (by (try simp only [List.length_append, List.length_cons, List.length_nil]); omega) (by (try simp only [List.length_append, List.length_cons, List.length_nil]); omega) ?_
            intro a147 c148 w149 hS150
            refine WL.val1 (R_assign (v := .slice (a147) ((acc ++ [{ name := z_allS_s_1_i, text := z_allS_s_1_i_1 : File }])).length (c148)) rfl) ?_
            refine WL.nil ?_
            refine block_normal ?_
            refine then_normal ?_
            refine WC.region ?_
            refine WL.val1 (R_move (v := .int .i64 (((i : Nat) : Int))) rfl) ?_
            refine WL.val1 (R_add_i (a := ((i : Nat) : Int)) (b := 2) rfl rfl (by omega)) ?_
            refine WL.val1 (R_assign (v := .int .i64 ((((i : Nat) : Int) + 2))) rfl) ?_
            refine WL.nil ?_
            refine then_normal ?_
            exact ⟨(i + 2, (acc ++ [{ name := z_allS_s_1_i, text := z_allS_s_1_i_1 : File }]), a147, c148), ⟨rfl, (by first | rfl | (apply congrArg (Value.int .i64); omega) | simp), (by first | rfl | (apply congrArg (Value.int .i64); omega) | simp), trivial⟩, ⟨h143, (hl14.trans hl144), hS150, (by (try dsimp only); first | assumption | omega | simp), (by (try dsimp only); simp; omega), (by (try dsimp only); rw [← f3, pairsS_step hz_allS_s_1_i hz_allS_s_1_i_1]; simp only [List.append_assoc, List.cons_append, List.nil_append])⟩, (by first | (simp only []; omega) | (simp; omega))⟩
        · skip
          refine WC.exit ?_
          refine then_exit ?_
          refine then_exit ?_
          refine block_exit ?_
          refine then_normal ?_
          refine WC.seq ?_
          refine WC.seq ?_
          obtain ⟨h151, hl152, hs153, hS154⟩ := hS11.growCommit (i := 0) rfl (Hp.le_refl _)
          have f4 : acc = pairsS (allS s).1 := by rw [← f3, pairsS_end (by omega), List.append_nil]
          refine WC.region ?_
          refine WL.val1 (R_move (v := .slice (acc_a) (acc).length (acc_c)) rfl) ?_
          refine S_callP (vs := [.slice (acc_a) (acc).length (acc_c)]) hS154 Tryd.call47 rfl (files_Right (acc) (acc_a) (acc_c) (by first | omega | exact fun x hx => hp.big x (by rw [f4] at hx; exact hx) | (have := hp.1; rw [f4]; omega)) (by first | omega | exact fun x hx => hp.big x (by rw [f4] at hx; exact hx) | (have := hp.1; rw [f4]; omega))) hs153 ?_
          intro w156 hS155
          refine WL.val1 (R_not (b := rightS acc) rfl) ?_
          refine WL.nil ?_
          refine then_normal ?_
          refine WC.condI (¬ ((rightS acc) = true)) (b := (!(rightS acc))) rfl (b_not Iff.rfl) (fun c3 => ?_) (fun c3 => ?_)
          · skip
            refine WC.seq ?_
            refine WC.region ?_
            refine WL.val1 (R_assign (v := .slice none 0 0) rfl) ?_
            refine WL.val1 (R_assign (v := .int .i64 (5)) rfl) ?_
            refine WL.nil ?_
            refine then_normal ?_
            refine WC.ret ?_
            refine then_ret ?_
            refine top_ret (.tuple #[.slice none 0 0, .int .i64 (5)]) (gives2 rfl rfl rfl) ?_
            have e_ : parseS s = ([], 5) := by unfold parseS; rw [← f4, if_neg (by omega), if_pos (.inr (by simpa using c3))]
            exact ⟨h151, ((hl4.trans hl14).trans hl152), ⟨none, 0, (by first | rfl | (rw [e_]; done) | (rw [e_]; rfl) | (simp; done)), (by first | exact Sl.nil _ _ _ _ | (rw [e_]; exact Sl.nil _ _ _ _))⟩, hS155.pop⟩
          · skip
            refine WC.skip ?_
            refine then_normal ?_
            refine WC.seq ?_
            refine WC.region ?_
            refine WL.val1 (R_move (v := .slice (acc_a) (acc).length (acc_c)) rfl) ?_
            refine WL.val1 (R_assign (v := .slice (acc_a) (acc).length (acc_c)) rfl) ?_
            refine WL.val1 (R_assign (v := .int .i64 (0)) rfl) ?_
            refine WL.nil ?_
            refine then_normal ?_
            refine WC.ret ?_
            refine top_ret (.tuple #[.slice (acc_a) (acc).length (acc_c), .int .i64 (0)]) (gives2 rfl rfl rfl) ?_
            have e_ : parseS s = (acc, 0) := by unfold parseS; rw [← f4, if_neg (by omega), if_neg (fun hh => c3 (hh.elim (by omega) (by simp)))]
            exact ⟨h151, ((hl4.trans hl14).trans hl152), ⟨acc_a, acc_c, (by first | rfl | (rw [e_]; done) | (rw [e_]; rfl) | (simp; done)), (by first | exact hs153 | (rw [e_]; exact hs153))⟩, hS155.pop⟩
end Go.Stet
