/- A part of the proof engine: rules for steps of the machine over frames and memory. Each under the conditions that its own statement names. -/
import Derived.Test.YtejombkbijackaaDoorSeatD2
import Derived.Test.YtejombkbijackaaDoorBldD
import Derived.Test.YtejombkbijackaaDoorEng15
import Derived.Test.YtejombkbijackaaDoorSpec12
import Derived.Test.YtejombkbijackaaDoorD12
set_option linter.all false
set_option linter.unusedSimpArgs false
set_option linter.unusedVariables false
namespace Go.Stet
open Go Go.Eng Go.Proofs
set_option maxHeartbeats 400000 in
theorem files_place1 (f : File) (n : Str)  : PureC GG Tryd.prog 39 (fun _ => True) [.agg #[.string (B (f.name)), .string (B (f.text))], .string (B (n))] (.int .i64 ((Lib.compareBytes f.name n))) := by
  intro Γ h L w hpre hS
  refine Ret.body Tryd.func39 rfl Tryd.ntmps39 (Nat.le_of_ble_eq_true rfl) ?_
  refine WC.seq ?_
  refine WC.region ?_
  refine S_box (l := [.string (B (f.name)), .string (B (f.text))]) (v := .agg #[.string (B (f.name)), .string (B (f.text))]) hS rfl rfl ?_
  intro w2 hS1
  refine WL.val1 (R_assign (v := .int .i64 (0)) rfl) ?_
  refine WL.nil ?_
  refine then_normal ?_
  refine WC.seq ?_
  refine WC.region ?_
  refine WL.val1 (R_fieldAddr (b := w.heap.size) (off := 0) (m := 0) rfl (fun _ => by kernel_rfl)) ?_
  refine WL.val1 (R_load (v := .string (B (f.name))) rfl (hS1.has (i := 0) rfl) (Tryd.isAgg9 _) rfl) ?_
  refine WL.val1 (R_move (v := .string (B (n))) rfl) ?_
  refine S_callP (vs := [.string (B (f.name)), .string (B (n))]) hS1 Tryd.call40 rfl (lib_Compare (f.name) (n)) trivial ?_
  intro w4 hS3
  refine WL.val1 (R_assign (v := .int .i64 ((Lib.compareBytes f.name n))) rfl) ?_
  refine WL.nil ?_
  refine then_normal ?_
  refine WC.ret ?_
  refine top_ret (.int .i64 ((Lib.compareBytes f.name n))) (gives1 rfl rfl) ?_
  exact ⟨(by rfl), hS3.pop⟩
set_option maxHeartbeats 400000 in
theorem files_bs (l : List File) (l_a : Option Addr) (l_c : Nat) (n : Str) (hl : l.length ≤ 1000000) : PureC GG Tryd.prog 38 (fun h => Sl RFile h l l_a l_c) [.slice (l_a) (l).length (l_c), .string (B (n)), .func (.func 39) #[] #[]] (.tuple #[.int .i64 ((((placeS l n).1 : Nat) : Int)), .bool ((placeS l n).2)]) := by
  intro Γ h L w hpre hS
  have sl_l := hpre
  refine Ret.body Tryd.func38 rfl Tryd.ntmps38 (Nat.le_of_ble_eq_true rfl) ?_
  refine WC.seq ?_
  refine WC.region ?_
  refine WL.val1 (R_assign (v := .int .i64 (0)) rfl) ?_
  refine WL.val1 (R_assign (v := .bool (false)) rfl) ?_
  refine WL.nil ?_
  refine then_normal ?_
  refine WC.seq ?_
  refine WC.region ?_
  refine WL.val1 (R_move (v := .slice (l_a) (l).length (l_c)) rfl) ?_
  refine WL.val1 (R_len_slice (n := (l).length) rfl Tryd.underlying23) ?_
  refine WL.val1 (R_assign (v := .int .i64 ((((l).length : Nat) : Int))) rfl) ?_
  refine WL.nil ?_
  refine then_normal ?_
  refine WC.seq ?_
  refine WC.region ?_
  refine WL.val1 (R_move (v := .int .i64 ((((l).length : Nat) : Int))) rfl) ?_
  refine WL.val1 (R_assign (v := .int .i64 (0)) rfl) ?_
  refine WL.val1 (R_assign (v := .int .i64 ((((l).length : Nat) : Int))) rfl) ?_
  refine WL.nil ?_
  refine then_normal ?_
  refine WC.seq ?_
  refine WC.block ?_
  refine WC.loopL (σ := Nat × Nat)
    (fun (q_ : Nat × Nat) => (fun (lo : Nat) (hi : Nat) => [(0, .slice (l_a) (l).length (l_c)), (1, .string (B (n))), (2, .func (.func 39) #[] #[]), (8, .int .i64 ((((l).length : Nat) : Int))), (9, .int .i64 (((lo : Nat) : Int))), (10, .int .i64 (((hi : Nat) : Int)))]) (q_.1) (q_.2))
    (fun (q_ : Nat × Nat) (w_ : World) => (fun (lo : Nat) (hi : Nat) => ∃ h3 : Hp, h.le h3 ∧ St Γ h3 (L) w_ ∧ (lo ≤ hi ∧ hi ≤ l.length) ∧ (∃ k, hi - lo < k ∧ bsF l n k lo hi = bsS l n)) (q_.1) (q_.2))
    (fun (q_ : Nat × Nat) => (fun (lo : Nat) (hi : Nat) => hi - lo) (q_.1) (q_.2)) (0, l.length) ?_ ?_ ?_
  · exact ⟨rfl, rfl, rfl, rfl, (by first | rfl | (apply congrArg (Value.int .i64); omega) | simp), (by first | rfl | (apply congrArg (Value.int .i64); omega) | simp), trivial⟩
  · exact ⟨h, Hp.le_refl _, hS, (by first | assumption | omega | simp), (by exact ⟨l.length + 1, by omega, rfl⟩)⟩
  · rintro ⟨lo, hi⟩ r5 w2 ⟨h3, hl4, hS1, f1, f2⟩
    try dsimp only at f1 f2
    obtain ⟨k, hk, f2⟩ := f2
    obtain ⟨k, rfl⟩ : ∃ m, k = m + 1 := ⟨k - 1, by omega⟩
    refine WC.seq ?_
    refine WC.seq ?_
    refine WC.region ?_
    refine WL.val1 (R_move (v := .int .i64 (((lo : Nat) : Int))) rfl) ?_
    refine WL.val1 (R_move (v := .int .i64 (((hi : Nat) : Int))) rfl) ?_
    refine WL.val1 (R_lss (a := ((lo : Nat) : Int)) (b := ((hi : Nat) : Int)) rfl rfl) ?_
    refine WL.nil ?_
    refine then_normal ?_
    refine WC.condP (((lo : Nat) : Int) < ((hi : Nat) : Int)) rfl (fun c0 => ?_) (fun c0 => ?_)
    · skip
      refine WC.skip ?_
      refine then_normal ?_
      refine WC.block ?_
      refine WC.seq ?_
      refine WC.region ?_
      refine WL.val1 (R_move (v := .int .i64 (((lo : Nat) : Int))) rfl) ?_
      refine WL.val1 (R_move (v := .int .i64 (((hi : Nat) : Int))) rfl) ?_
      refine WL.val1 (R_add_i (a := ((lo : Nat) : Int)) (b := ((hi : Nat) : Int)) rfl rfl (by omega)) ?_
      refine WL.val1 (R_conv_u64 (a := (((lo : Nat) : Int) + ((hi : Nat) : Int))) rfl Tryd.underlying3 Tryd.underlying95 (by omega)) ?_
      refine WL.val1 (R_shr (a := (((lo : Nat) : Int) + ((hi : Nat) : Int))) (c := 1) (v := ((((lo : Nat) : Int) + ((hi : Nat) : Int)) / 2)) rfl rfl (by decide) rfl) ?_
      refine WL.val1 (R_conv_i (a := ((((lo : Nat) : Int) + ((hi : Nat) : Int)) / 2)) rfl Tryd.underlying95 Tryd.underlying3 (by omega)) ?_
      refine WL.val1 (R_assign (v := .int .i64 (((((lo : Nat) : Int) + ((hi : Nat) : Int)) / 2))) rfl) ?_
      refine WL.nil ?_
      refine then_normal ?_
      refine WC.seq ?_
      refine WC.region ?_
      refine WL.val1 (R_move (v := .func (.func 39) #[] #[]) rfl) ?_
      refine WL.val1 (R_move (v := .slice (l_a) (l).length (l_c)) rfl) ?_
      refine WL.val1 (R_move (v := .int .i64 (((((lo : Nat) : Int) + ((hi : Nat) : Int)) / 2))) rfl) ?_
      obtain ⟨z_l_lo_hi_2, hz_l_lo_hi_2⟩ : ∃ z, (l)[((lo + hi) / 2)]? = some z := ⟨_, List.getElem?_eq_getElem (by omega)⟩
      obtain ⟨b6, o7, cs11, ha8, hr9, hat10⟩ := (sl_l.mono hl4).2 ((lo + hi) / 2) z_l_lo_hi_2 hz_l_lo_hi_2
      subst hr9
      refine WL.val1 (R_indexAddrE (i := ((((lo : Nat) : Int) + ((hi : Nat) : Int)) / 2)) (m := ((lo + hi) / 2)) ha8 rfl rfl Tryd.underlying23 (Tryd.sizeOf53 _) (by first | rfl | (omega)) (by omega)) ?_
      refine WL.val1 (R_loadCA (cs := [.string (B (z_l_lo_hi_2.name)), .string (B (z_l_lo_hi_2.text))]) hS1 rfl hat10 Tryd.isAgg53 Tryd.sizeOf53 rfl) ?_
      refine WL.val1 (R_move (v := .string (B (n))) rfl) ?_
      refine S_callvP (cap := []) (vs := [.agg #[.string (B (z_l_lo_hi_2.name)), .string (B (z_l_lo_hi_2.text))], .string (B (n))]) rfl hS1 Tryd.call39 rfl (files_place1 (z_l_lo_hi_2) (n)) trivial ?_
      intro w13 hS12
      refine WL.val1 (R_lss (a := (Lib.compareBytes z_l_lo_hi_2.name n)) (b := 0) rfl rfl) ?_
      refine WL.nil ?_
      refine then_normal ?_
      refine WC.condP ((Lib.compareBytes z_l_lo_hi_2.name n) < 0) rfl (fun c1 => ?_) (fun c1 => ?_)
      · skip
        refine WC.region ?_
        refine WL.val1 (R_move (v := .int .i64 (((((lo : Nat) : Int) + ((hi : Nat) : Int)) / 2))) rfl) ?_
        refine WL.val1 (R_add_i (a := ((((lo : Nat) : Int) + ((hi : Nat) : Int)) / 2)) (b := 1) rfl rfl (by omega)) ?_
        refine WL.val1 (R_assign (v := .int .i64 ((((((lo : Nat) : Int) + ((hi : Nat) : Int)) / 2) + 1))) rfl) ?_
        refine WL.nil ?_
        refine block_normal ?_
        refine then_normal ?_
        exact ⟨((((lo + hi) / 2) + 1), hi), ⟨rfl, rfl, rfl, rfl, (by first | rfl | (apply congrArg (Value.int .i64); omega) | simp), (by first | rfl | (apply congrArg (Value.int .i64); omega) | simp), trivial⟩, ⟨h3, hl4, hS12, (by (try dsimp only); first | assumption | omega | simp), (by (try dsimp only); first | exact ⟨k, by omega, by rw [← f2, bsF_step1 (by omega) hz_l_lo_hi_2 c1]⟩ | exact ⟨k, by omega, by rw [← f2, bsF_step2 (by omega) hz_l_lo_hi_2 c1]⟩)⟩, (by first | (simp only []; omega) | (simp; omega))⟩
      · skip
        refine WC.region ?_
        refine WL.val1 (R_move (v := .int .i64 (((((lo : Nat) : Int) + ((hi : Nat) : Int)) / 2))) rfl) ?_
        refine WL.val1 (R_assign (v := .int .i64 (((((lo : Nat) : Int) + ((hi : Nat) : Int)) / 2))) rfl) ?_
        refine WL.nil ?_
        refine block_normal ?_
        refine then_normal ?_
        exact ⟨(lo, ((lo + hi) / 2)), ⟨rfl, rfl, rfl, rfl, (by first | rfl | (apply congrArg (Value.int .i64); omega) | simp), (by first | rfl | (apply congrArg (Value.int .i64); omega) | simp), trivial⟩, ⟨h3, hl4, hS12, (by (try dsimp only); first | assumption | omega | simp), (by (try dsimp only); first | exact ⟨k, by omega, by rw [← f2, bsF_step1 (by omega) hz_l_lo_hi_2 c1]⟩ | exact ⟨k, by omega, by rw [← f2, bsF_step2 (by omega) hz_l_lo_hi_2 c1]⟩)⟩, (by first | (simp only []; omega) | (simp; omega))⟩
    · skip
      refine WC.exit ?_
      refine then_exit ?_
      refine then_exit ?_
      refine block_exit ?_
      refine then_normal ?_
      refine WC.seq ?_
      have f3 : bsS l n = lo := by rw [← f2, bsF_end (by omega)]
      by_cases hlo : lo < l.length
      · skip
        have f3 : bsS l n = lo := by rw [← f2, bsF_end (by omega)]
        refine WC.region ?_
        refine WL.val1 (R_move (v := .int .i64 (((lo : Nat) : Int))) rfl) ?_
        refine WL.val1 (R_move (v := .int .i64 (((lo : Nat) : Int))) rfl) ?_
        refine WL.val1 (R_move (v := .int .i64 ((((l).length : Nat) : Int))) rfl) ?_
        refine WL.val1 (R_cast (R_lss (a := ((lo : Nat) : Int)) (b := (((l).length : Nat) : Int)) rfl rfl) (bool_true (by exact decide_eq_true (by omega)))) ?_
        refine WL.val1 (R_move (v := .bool (true)) rfl) ?_
        refine WL_unguard (yl_eq (d := 39) rfl rfl) ?_
        refine WL.val1 (R_move (v := .func (.func 39) #[] #[]) rfl) ?_
        refine WL_unguard (yl_eq (d := 39) rfl rfl) ?_
        refine WL.val1 (R_move (v := .slice (l_a) (l).length (l_c)) rfl) ?_
        refine WL_unguard (yl_eq (d := 39) rfl rfl) ?_
        refine WL.val1 (R_move (v := .int .i64 (((lo : Nat) : Int))) rfl) ?_
        refine WL_unguard (yl_eq (d := 39) rfl rfl) ?_
        obtain ⟨z_l_lo, hz_l_lo⟩ : ∃ z, (l)[lo]? = some z := ⟨_, List.getElem?_eq_getElem (by omega)⟩
        obtain ⟨b14, o15, cs19, ha16, hr17, hat18⟩ := (sl_l.mono hl4).2 lo z_l_lo hz_l_lo
        subst hr17
        refine WL.val1 (R_indexAddrE (i := ((lo : Nat) : Int)) (m := lo) ha16 rfl rfl Tryd.underlying23 (Tryd.sizeOf53 _) (by first | rfl | (omega)) (by omega)) ?_
        refine WL_unguard (yl_eq (d := 39) rfl rfl) ?_
        refine WL.val1 (R_loadCA (cs := [.string (B (z_l_lo.name)), .string (B (z_l_lo.text))]) hS1 rfl hat18 Tryd.isAgg53 Tryd.sizeOf53 rfl) ?_
        refine WL_unguard (yl_eq (d := 39) rfl rfl) ?_
        refine WL.val1 (R_move (v := .string (B (n))) rfl) ?_
        refine WL_unguard (yl_eq (d := 39) rfl rfl) ?_
        refine S_callvP (cap := []) (vs := [.agg #[.string (B (z_l_lo.name)), .string (B (z_l_lo.text))], .string (B (n))]) rfl hS1 Tryd.call39 rfl (files_place1 (z_l_lo) (n)) trivial ?_
        intro w21 hS20
        refine WL_unguard (yl_eq (d := 39) rfl rfl) ?_
        refine WL.val1 (R_eql (a := (Lib.compareBytes z_l_lo.name n)) (b := 0) rfl rfl) ?_
        refine WL.val1 (R_pick (cb := true) (v := .bool (decide ((Lib.compareBytes z_l_lo.name n) = 0))) rfl (fun _ => rfl) (fun h => by cases h)) ?_
        refine WL.val1 (R_assign (v := .int .i64 (((lo : Nat) : Int))) rfl) ?_
        refine WL.val1 (R_assign (v := .bool (decide ((Lib.compareBytes z_l_lo.name n) = 0))) rfl) ?_
        refine WL.nil ?_
        refine then_normal ?_
        refine WC.ret ?_
        refine top_ret (.tuple #[.int .i64 (((lo : Nat) : Int)), .bool (decide ((Lib.compareBytes z_l_lo.name n) = 0))]) (gives2 rfl rfl rfl) ?_
        exact ⟨(by rw [placeS, f3, decide_eq_true hlo, getD_of hz_l_lo]; rfl), (hS20.weaken_h hl4)⟩
      · skip
        have f3 : bsS l n = lo := by rw [← f2, bsF_end (by omega)]
        refine WC.region ?_
        refine WL.val1 (R_move (v := .int .i64 (((lo : Nat) : Int))) rfl) ?_
        refine WL.val1 (R_move (v := .int .i64 (((lo : Nat) : Int))) rfl) ?_
        refine WL.val1 (R_move (v := .int .i64 ((((l).length : Nat) : Int))) rfl) ?_
        refine WL.val1 (R_cast (R_lss (a := ((lo : Nat) : Int)) (b := (((l).length : Nat) : Int)) rfl rfl) (bool_false (by exact decide_eq_false (by omega)))) ?_
        refine WL.val1 (R_move (v := .bool (false)) rfl) ?_
        refine WL.skip (.inl (yl_eq (d := 39) rfl rfl)) ?_
        refine WL.skip (.inl (yl_eq (d := 39) rfl rfl)) ?_
        refine WL.skip (.inl (yl_eq (d := 39) rfl rfl)) ?_
        refine WL.skip (.inl (yl_eq (d := 39) rfl rfl)) ?_
        refine WL.skip (.inl (yl_eq (d := 39) rfl rfl)) ?_
        refine WL.skip (.inl (yl_eq (d := 39) rfl rfl)) ?_
        refine WL.skip (.inl (yl_eq (d := 39) rfl rfl)) ?_
        refine WL.skip (.inl (yl_eq (d := 39) rfl rfl)) ?_
        refine WL.val1 (R_pick (cb := false) (v := .bool (false)) rfl (fun h => by cases h) (fun _ => rfl)) ?_
        refine WL.val1 (R_assign (v := .int .i64 (((lo : Nat) : Int))) rfl) ?_
        refine WL.val1 (R_assign (v := .bool (false)) rfl) ?_
        refine WL.nil ?_
        refine then_normal ?_
        refine WC.ret ?_
        refine top_ret (.tuple #[.int .i64 (((lo : Nat) : Int)), .bool (false)]) (gives2 rfl rfl rfl) ?_
        exact ⟨(by rw [placeS, f3, decide_eq_false hlo]; rfl), (hS1.weaken_h hl4)⟩
set_option maxHeartbeats 400000 in
theorem files_place (l : List File) (l_a : Option Addr) (l_c : Nat) (n : Str) (hl : l.length ≤ 1000000) : PureC GG Tryd.prog 30 (fun h => Sl RFile h l l_a l_c) [.slice (l_a) (l).length (l_c), .string (B (n))] (.tuple #[.int .i64 ((((placeS l n).1 : Nat) : Int)), .bool ((placeS l n).2)]) := by
  intro Γ h L w hpre hS
  have sl_l := hpre
  refine Ret.body Tryd.func30 rfl Tryd.ntmps30 (Nat.le_of_ble_eq_true rfl) ?_
  refine WC.seq ?_
  refine WC.region ?_
  refine WL.val1 (R_assign (v := .int .i64 (0)) rfl) ?_
  refine WL.val1 (R_assign (v := .bool (false)) rfl) ?_
  refine WL.nil ?_
  refine then_normal ?_
  refine WC.seq ?_
  refine WC.region ?_
  refine WL.val1 (R_move (v := .slice (l_a) (l).length (l_c)) rfl) ?_
  refine WL.val1 (R_move (v := .string (B (n))) rfl) ?_
  refine S_callP (vs := [.slice (l_a) (l).length (l_c), .string (B (n)), .func (.func 39) #[] #[]]) hS Tryd.call38 rfl (files_bs (l) (l_a) (l_c) (n) (by first | assumption | omega)) sl_l ?_
  intro w2 hS1
  refine WL.val1 (R_extract (vs := ([.int .i64 ((((placeS l n).1 : Nat) : Int)), .bool ((placeS l n).2)] : List Value).toArray) (v := .int .i64 ((((placeS l n).1 : Nat) : Int))) rfl rfl) ?_
  refine WL.val1 (R_extract (vs := ([.int .i64 ((((placeS l n).1 : Nat) : Int)), .bool ((placeS l n).2)] : List Value).toArray) (v := .bool ((placeS l n).2)) rfl rfl) ?_
  refine WL.val1 (R_assign (v := .int .i64 ((((placeS l n).1 : Nat) : Int))) rfl) ?_
  refine WL.val1 (R_assign (v := .bool ((placeS l n).2)) rfl) ?_
  refine WL.nil ?_
  refine then_normal ?_
  refine WC.ret ?_
  refine top_ret (.tuple #[.int .i64 ((((placeS l n).1 : Nat) : Int)), .bool ((placeS l n).2)]) (gives2 rfl rfl rfl) ?_
  exact ⟨(by rfl), hS1⟩
set_option maxHeartbeats 400000 in
theorem files_Get (l : List File) (l_a : Option Addr) (l_c : Nat) (n : Str) (hl : l.length ≤ 1000000) : PureC GG Tryd.prog 21 (fun h => Sl RFile h l l_a l_c) [.slice (l_a) (l).length (l_c), .string (B (n))] (.tuple #[.string (B ((fgetS l n).1)), .bool ((fgetS l n).2)]) := by
  intro Γ h L w hpre hS
  have sl_l := hpre
  refine Ret.body Tryd.func21 rfl Tryd.ntmps21 (Nat.le_of_ble_eq_true rfl) ?_
  refine WC.seq ?_
  refine WC.region ?_
  refine WL.val1 (R_assign (v := .string (B (([] : Str)))) rfl) ?_
  refine WL.val1 (R_assign (v := .bool (false)) rfl) ?_
  refine WL.nil ?_
  refine then_normal ?_
  refine WC.seq ?_
  refine WC.region ?_
  refine WL.val1 (R_move (v := .slice (l_a) (l).length (l_c)) rfl) ?_
  refine WL.val1 (R_move (v := .string (B (n))) rfl) ?_
  refine S_callP (vs := [.slice (l_a) (l).length (l_c), .string (B (n))]) hS Tryd.call30 rfl (files_place (l) (l_a) (l_c) (n) (by first | assumption | omega)) sl_l ?_
  intro w2 hS1
  refine WL.val1 (R_move (v := .tuple #[.int .i64 ((((placeS l n).1 : Nat) : Int)), .bool ((placeS l n).2)]) rfl) ?_
  refine WL.val1 (R_extract (vs := ([.int .i64 ((((placeS l n).1 : Nat) : Int)), .bool ((placeS l n).2)] : List Value).toArray) (v := .int .i64 ((((placeS l n).1 : Nat) : Int))) rfl rfl) ?_
  refine WL.val1 (R_extract (vs := ([.int .i64 ((((placeS l n).1 : Nat) : Int)), .bool ((placeS l n).2)] : List Value).toArray) (v := .bool ((placeS l n).2)) rfl rfl) ?_
  refine WL.val1 (R_assign (v := .int .i64 ((((placeS l n).1 : Nat) : Int))) rfl) ?_
  refine WL.val1 (R_assign (v := .bool ((placeS l n).2)) rfl) ?_
  refine WL.nil ?_
  refine then_normal ?_
  refine WC.seq ?_
  refine WC.seq ?_
  refine WC.region ?_
  refine WL.val1 (R_move (v := .bool ((placeS l n).2)) rfl) ?_
  refine WL.val1 (R_not (b := (placeS l n).2) rfl) ?_
  refine WL.nil ?_
  refine then_normal ?_
  refine WC.condI (¬ (((placeS l n).2) = true)) (b := (!((placeS l n).2))) rfl (b_not Iff.rfl) (fun c0 => ?_) (fun c0 => ?_)
  · skip
    refine WC.seq ?_
    refine WC.region ?_
    refine WL.val1 (R_assign (v := .string (B (([] : Str)))) rfl) ?_
    refine WL.val1 (R_assign (v := .bool (false)) rfl) ?_
    refine WL.nil ?_
    refine then_normal ?_
    refine WC.ret ?_
    refine then_ret ?_
    refine top_ret (.tuple #[.string (B (([] : Str))), .bool (false)]) (gives2 rfl rfl rfl) ?_
    have e_ : fgetS l n = ([], false) := if_neg c0
    exact ⟨(by first | rfl | (rw [e_]; done) | (rw [e_]; rfl) | (simp; done)), hS1⟩
  · skip
    have hlt := placeS_lt (Decidable.not_not.1 c0)
    refine WC.skip ?_
    refine then_normal ?_
    refine WC.seq ?_
    refine WC.region ?_
    refine WL.val1 (R_move (v := .slice (l_a) (l).length (l_c)) rfl) ?_
    refine WL.val1 (R_move (v := .int .i64 ((((placeS l n).1 : Nat) : Int))) rfl) ?_
    obtain ⟨z_l_placeS_l_n_1, hz_l_placeS_l_n_1⟩ : ∃ z, (l)[(placeS l n).1]? = some z := ⟨_, List.getElem?_eq_getElem (by omega)⟩
    obtain ⟨b3, o4, cs8, ha5, hr6, hat7⟩ := sl_l.2 (placeS l n).1 z_l_placeS_l_n_1 hz_l_placeS_l_n_1
    subst hr6
    refine WL.val1 (R_indexAddrE (i := (((placeS l n).1 : Nat) : Int)) (m := (placeS l n).1) ha5 rfl rfl Tryd.underlying23 (Tryd.sizeOf53 _) (by first | rfl | (omega)) (by omega)) ?_
    refine WL.val1 (R_fieldAddr (b := b3) (off := (o4 + (placeS l n).1 * RFile.n)) (m := 1) rfl (fun _ => by kernel_rfl)) ?_
    refine WL.val1 (R_loadC (v := .string (B (z_l_placeS_l_n_1.text))) hS1 rfl (hat7.sub 1 1 (cs' := [.string (B (z_l_placeS_l_n_1.text))]) rfl) Tryd.isAgg9 rfl) ?_
    refine WL.val1 (R_assign (v := .string (B (z_l_placeS_l_n_1.text))) rfl) ?_
    refine WL.val1 (R_assign (v := .bool (true)) rfl) ?_
    refine WL.nil ?_
    refine then_normal ?_
    refine WC.ret ?_
    refine top_ret (.tuple #[.string (B (z_l_placeS_l_n_1.text)), .bool (true)]) (gives2 rfl rfl rfl) ?_
    have e_ : fgetS l n = (z_l_placeS_l_n_1.text, true) := by rw [fgetS, if_pos (Decidable.not_not.1 c0), getD_of hz_l_placeS_l_n_1]
    exact ⟨(by first | rfl | (rw [e_]; done) | (rw [e_]; rfl) | (simp; done)), hS1⟩
set_option maxHeartbeats 400000 in
theorem rec_place1 (r : Rec) (r_a1 : Option Addr) (r_c1 : Nat) (r_a2 : Option Addr) (r_c2 : Nat) (n_b : Nat) (nm : Str)  : PureC GG Tryd.prog 32 (fun h => Sl RSeen h r.seens r_a1 r_c1 ∧ Sl RFile h r.files r_a2 r_c2 ∧ At h n_b 0 [.string (B (nm))]) [.agg #[.string (B (r.name)), .slice (r_a1) (r.seens).length (r_c1), .slice (r_a2) (r.files).length (r_c2)], .pointer (some ⟨n_b, 0, none⟩)] (.bool (decide (r.name = nm))) := by
  intro Γ h L w hpre hS
  obtain ⟨sl_r0, sl_r1, at_n⟩ := hpre
  refine Ret.body Tryd.func32 rfl Tryd.ntmps32 (Nat.le_of_ble_eq_true rfl) ?_
  refine WC.seq ?_
  refine WC.region ?_
  refine S_box (l := [.string (B (r.name)), .slice (r_a1) (r.seens).length (r_c1), .slice (r_a2) (r.files).length (r_c2)]) (v := .agg #[.string (B (r.name)), .slice (r_a1) (r.seens).length (r_c1), .slice (r_a2) (r.files).length (r_c2)]) hS rfl rfl ?_
  intro w2 hS1
  refine WL.val1 (R_assign (v := .bool (false)) rfl) ?_
  refine WL.nil ?_
  refine then_normal ?_
  refine WC.seq ?_
  refine WC.region ?_
  refine WL.val1 (R_fieldAddr (b := w.heap.size) (off := 0) (m := 0) rfl (fun _ => by kernel_rfl)) ?_
  refine WL.val1 (R_load (v := .string (B (r.name))) rfl (hS1.has (i := 0) rfl) (Tryd.isAgg9 _) rfl) ?_
  refine WL.val1 (R_loadC (v := .string (B (nm))) hS1 rfl at_n Tryd.isAgg9 rfl) ?_
  refine WL.val1 (R_seql (a := r.name) (b := nm) rfl rfl) ?_
  refine WL.val1 (R_assign (v := .bool (decide (r.name = nm))) rfl) ?_
  refine WL.nil ?_
  refine then_normal ?_
  refine WC.ret ?_
  refine top_ret (.bool (decide (r.name = nm))) (gives1 rfl rfl) ?_
  exact ⟨(by rfl), hS1.pop⟩
set_option maxHeartbeats 400000 in
theorem rec_ixf (l : List Rec) (l_a : Option Addr) (l_c : Nat) (n_b : Nat) (nm : Str) (hl : l.length ≤ 1000000) : PureC GG Tryd.prog 31 (fun h => Sl RRec h l l_a l_c ∧ At h n_b 0 [.string (B (nm))]) [.slice (l_a) (l).length (l_c), .func (.func 32) #[] #[.pointer (some ⟨n_b, 0, none⟩)]] (.int .i64 ((rplS l nm))) := by
  intro Γ h L w hpre hS
  obtain ⟨sl_l, at_n⟩ := hpre
  refine Ret.body Tryd.func31 rfl Tryd.ntmps31 (Nat.le_of_ble_eq_true rfl) ?_
  refine WC.seq ?_
  refine WC.region ?_
  refine WL.val1 (R_assign (v := .int .i64 (0)) rfl) ?_
  refine WL.nil ?_
  refine then_normal ?_
  refine WC.seq ?_
  refine WC.seq ?_
  refine WC.region ?_
  refine WL.val1 (R_move (v := .slice (l_a) (l).length (l_c)) rfl) ?_
  refine WL.val1 (R_len_slice (n := (l).length) rfl Tryd.underlying22) ?_
  refine WL.val1 (R_move (v := .int .i64 (0)) rfl) ?_
  refine WL.nil ?_
  refine then_normal ?_
  refine WC.block ?_
  refine WC.loopL (σ := Nat)
    (fun (q_ : Nat) => (fun (i : Nat) => [(0, .slice (l_a) (l).length (l_c)), (1, .func (.func 32) #[] #[.pointer (some ⟨n_b, 0, none⟩)]), (7, .int .i64 ((((l).length : Nat) : Int))), (8, .int .i64 (((i : Nat) : Int)))]) (q_))
    (fun (q_ : Nat) (w_ : World) => (fun (i : Nat) => ∃ h3 : Hp, h.le h3 ∧ St Γ h3 (L) w_ ∧ (i ≤ l.length) ∧ (rplF nm (l.drop i) (i : Int) = rplS l nm)) (q_))
    (fun (q_ : Nat) => (fun (i : Nat) => l.length - i) (q_)) (0) ?_ ?_ ?_
  · exact ⟨rfl, rfl, rfl, (by first | rfl | (apply congrArg (Value.int .i64); omega) | simp), trivial⟩
  · exact ⟨h, Hp.le_refl _, hS, (by first | assumption | omega | simp), (by rfl)⟩
  · rintro i r5 w2 ⟨h3, hl4, hS1, f1, f2⟩
    try dsimp only at f1 f2
    refine WC.seq ?_
    refine WC.region ?_
    refine WL.val1 (R_lss (a := ((i : Nat) : Int)) (b := (((l).length : Nat) : Int)) rfl rfl) ?_
    refine WL.nil ?_
    refine then_normal ?_
    refine WC.seq ?_
    refine WC.condP (((i : Nat) : Int) < (((l).length : Nat) : Int)) rfl (fun c0 => ?_) (fun c0 => ?_)
    · skip
      refine WC.skip ?_
      refine then_normal ?_
      refine WC.seq ?_
      refine WC.block ?_
      refine WC.seq ?_
      refine WC.region ?_
      refine WL.val1 (R_move (v := .int .i64 (((i : Nat) : Int))) rfl) ?_
      refine WL.val1 (R_assign (v := .int .i64 (((i : Nat) : Int))) rfl) ?_
      refine WL.nil ?_
      refine then_normal ?_
      refine WC.seq ?_
      refine WC.region ?_
      refine WL.val1 (R_move (v := .func (.func 32) #[] #[.pointer (some ⟨n_b, 0, none⟩)]) rfl) ?_
      refine WL.val1 (R_move (v := .slice (l_a) (l).length (l_c)) rfl) ?_
      refine WL.val1 (R_move (v := .int .i64 (((i : Nat) : Int))) rfl) ?_
      obtain ⟨z_l_i, hz_l_i⟩ : ∃ z, (l)[i]? = some z := ⟨_, List.getElem?_eq_getElem (by omega)⟩
      obtain ⟨b6, o7, cs11, ha8, hr9, hat10⟩ := (sl_l.mono hl4).2 i z_l_i hz_l_i
      obtain ⟨a12, c13, a14, c15, rfl, hs16, hs17⟩ := hr9
      refine WL.val1 (R_indexAddrE (i := ((i : Nat) : Int)) (m := i) ha8 rfl rfl Tryd.underlying22 (Tryd.sizeOf35 _) (by first | rfl | (omega)) (by omega)) ?_
      refine WL.val1 (R_loadCA (cs := [.string (B (z_l_i.name)), .slice (a12) (z_l_i.seens).length (c13), .slice (a14) (z_l_i.files).length (c15)]) hS1 rfl hat10 Tryd.isAgg35 Tryd.sizeOf35 rfl) ?_
      refine S_callvP (cap := [.pointer (some ⟨n_b, 0, none⟩)]) (vs := [.agg #[.string (B (z_l_i.name)), .slice (a12) (z_l_i.seens).length (c13), .slice (a14) (z_l_i.files).length (c15)]]) rfl hS1 Tryd.call32 rfl (rec_place1 (z_l_i) (a12) (c13) (a14) (c15) (n_b) (nm)) ⟨hs16, hs17, (at_n.mono hl4)⟩ ?_
      intro w19 hS18
      refine WL.nil ?_
      refine then_normal ?_
      refine WC.condP (z_l_i.name = nm) rfl (fun c1 => ?_) (fun c1 => ?_)
      · skip
        refine WC.seq ?_
        refine WC.region ?_
        refine WL.val1 (R_move (v := .int .i64 (((i : Nat) : Int))) rfl) ?_
        refine WL.val1 (R_assign (v := .int .i64 (((i : Nat) : Int))) rfl) ?_
        refine WL.nil ?_
        refine then_normal ?_
        refine WC.ret ?_
        refine block_ret ?_
        refine then_ret ?_
        refine then_ret ?_
        refine block_ret ?_
        refine then_ret ?_
        refine top_ret (.int .i64 (((i : Nat) : Int))) (gives1 rfl rfl) ?_
        exact ⟨(by rw [← f2, rplF_yes hz_l_i c1]), (hS18.weaken_h hl4)⟩
      · skip
        refine WC.skip ?_
        refine block_normal ?_
        refine then_normal ?_
        refine WC.region ?_
        refine WL.val1 (R_add_i (a := ((i : Nat) : Int)) (b := 1) rfl rfl (by omega)) ?_
        refine WL.val1 (R_move (v := .int .i64 ((((i : Nat) : Int) + 1))) rfl) ?_
        refine WL.nil ?_
        refine then_normal ?_
        exact ⟨(i + 1), ⟨rfl, rfl, rfl, (by first | rfl | (apply congrArg (Value.int .i64); omega) | simp), trivial⟩, ⟨h3, hl4, hS18, (by (try dsimp only); first | assumption | omega | simp), (by (try dsimp only); rw [← f2, rplF_no hz_l_i c1]; rfl)⟩, (by first | (simp only []; omega) | (simp; omega))⟩
    · skip
      refine WC.exit ?_
      refine then_exit ?_
      refine then_exit ?_
      refine block_exit ?_
      refine then_normal ?_
      refine WC.seq ?_
      refine WC.region ?_
      refine WL.val1 (R_assign (v := .int .i64 ((-1))) rfl) ?_
      refine WL.nil ?_
      refine then_normal ?_
      refine WC.ret ?_
      refine top_ret (.int .i64 ((-1))) (gives1 rfl rfl) ?_
      exact ⟨(by rw [← f2, rplF_end (by omega)]), (hS1.weaken_h hl4)⟩
set_option maxHeartbeats 400000 in
theorem rec_place (l : List Rec) (l_a : Option Addr) (l_c : Nat) (nm : Str) (hl : l.length ≤ 1000000) : PureC GG Tryd.prog 24 (fun h => Sl RRec h l l_a l_c) [.slice (l_a) (l).length (l_c), .string (B (nm))] (.int .i64 ((rplS l nm))) := by
  intro Γ h L w hpre hS
  have sl_l := hpre
  refine Ret.body Tryd.func24 rfl Tryd.ntmps24 (Nat.le_of_ble_eq_true rfl) ?_
  refine WC.seq ?_
  refine WC.region ?_
  refine S_box (l := [.string (B (nm))]) (v := .string (B (nm))) hS rfl rfl ?_
  intro w2 hS1
  refine WL.val1 (R_assign (v := .int .i64 (0)) rfl) ?_
  refine WL.nil ?_
  refine then_normal ?_
  refine WC.seq ?_
  refine WC.region ?_
  refine WL.val1 (R_move (v := .slice (l_a) (l).length (l_c)) rfl) ?_
  obtain ⟨h3, hl4, hat5, hS6⟩ := hS1.commitRow (i := 0) rfl
  refine WL.val1 (R_makeFunc (v := .func (.func 32) #[] #[.pointer (some ⟨w.heap.size, 0, none⟩)]) rfl) ?_
  refine S_callP (vs := [.slice (l_a) (l).length (l_c), .func (.func 32) #[] #[.pointer (some ⟨w.heap.size, 0, none⟩)]]) hS6 Tryd.call31 rfl (rec_ixf (l) (l_a) (l_c) (w.heap.size) (nm) (by first | assumption | omega)) ⟨(sl_l.mono hl4), hat5⟩ ?_
  intro w8 hS7
  refine WL.val1 (R_assign (v := .int .i64 ((rplS l nm))) rfl) ?_
  refine WL.nil ?_
  refine then_normal ?_
  refine WC.ret ?_
  refine top_ret (.int .i64 ((rplS l nm))) (gives1 rfl rfl) ?_
  exact ⟨(by rfl), (hS7.pop.weaken_h hl4)⟩
set_option maxHeartbeats 400000 in
theorem rec_own (r : Rec) (r_a1 : Option Addr) (r_c1 : Nat) (r_a2 : Option Addr) (r_c2 : Nat) (hs : r.seens.length ≤ 1000000) (hf : r.files.length ≤ 1000000) : FnC GG Tryd.prog 23 (fun h => Sl RSeen h r.seens r_a1 r_c1 ∧ Sl RFile h r.files r_a2 r_c2) [.agg #[.string (B (r.name)), .slice (r_a1) (r.seens).length (r_c1), .slice (r_a2) (r.files).length (r_c2)]] (fun h v => ∃ (a : Option Addr) (c : Nat) (a2 : Option Addr) (c2 : Nat), v = .agg #[.string (B (r.name)), .slice (a) (r.seens).length (c), .slice (a2) (r.files).length (c2)] ∧ (Sl RSeen h r.seens a c) ∧ (Sl RFile h r.files a2 c2)) := by
  intro Γ h L w hpre hS
  obtain ⟨sl_r0, sl_r1⟩ := hpre
  refine Ret.body Tryd.func23 rfl Tryd.ntmps23 (Nat.le_of_ble_eq_true rfl) ?_
  refine WC.seq ?_
  refine WC.region ?_
  refine S_box (l := [.string (B (r.name)), .slice (r_a1) (r.seens).length (r_c1), .slice (r_a2) (r.files).length (r_c2)]) (v := .agg #[.string (B (r.name)), .slice (r_a1) (r.seens).length (r_c1), .slice (r_a2) (r.files).length (r_c2)]) hS rfl rfl ?_
  intro w2 hS1
  refine S_alloc hS1 Tryd.zeroValue35 ?_
  intro w4 hS3
  refine WL.nil ?_
  refine then_normal ?_
  refine WC.seq ?_
  refine WC.region ?_
  refine WL.val1 (R_fieldAddr (b := w.heap.size) (off := 0) (m := 1) rfl (fun _ => by kernel_rfl)) ?_
  refine WL.val1 (R_load (v := .slice (r_a1) (r.seens).length (r_c1)) rfl (hS3.has (i := 1) rfl) (Tryd.isAgg30 _) rfl) ?_
  refine WL.val1 (R_len_slice (n := (r.seens).length) rfl Tryd.underlying30) ?_
  refine S_makeSlice (m := (r.seens).length) (k := 3) (bytes := 40) hS3 Tryd.underlying30 (by kernel_rfl : _ = some Tryd.t51) rfl rfl rfl rfl rfl (by omega) (by omega) ?_
  intro w6 hS5
  refine WL.val1 (R_assign (v := .slice (some ⟨w4.heap.size, 0, none⟩) (r.seens).length ((r.seens).length)) rfl) ?_
  refine WL.nil ?_
  refine then_normal ?_
  refine WC.seq ?_
  refine WC.region ?_
  refine WL.val1 (R_fieldAddr (b := w.heap.size) (off := 0) (m := 2) rfl (fun _ => by kernel_rfl)) ?_
  refine WL.val1 (R_load (v := .slice (r_a2) (r.files).length (r_c2)) rfl (hS5.has (i := 2) rfl) (Tryd.isAgg23 _) rfl) ?_
  refine WL.val1 (R_len_slice (n := (r.files).length) rfl Tryd.underlying23) ?_
  refine S_makeSlice (m := (r.files).length) (k := 2) (bytes := 32) hS5 Tryd.underlying23 (by kernel_rfl : _ = some Tryd.t53) rfl rfl rfl rfl rfl (by omega) (by omega) ?_
  intro w8 hS7
  refine WL.val1 (R_assign (v := .slice (some ⟨w6.heap.size, 0, none⟩) (r.files).length ((r.files).length)) rfl) ?_
  refine WL.nil ?_
  refine then_normal ?_
  refine WC.seq ?_
  refine WC.region ?_
  refine WL.val1 (R_move (v := .slice (some ⟨w4.heap.size, 0, none⟩) (r.seens).length ((r.seens).length)) rfl) ?_
  refine WL.val1 (R_fieldAddr (b := w.heap.size) (off := 0) (m := 1) rfl (fun _ => by kernel_rfl)) ?_
  refine WL.val1 (R_load (v := .slice (r_a1) (r.seens).length (r_c1)) rfl (hS7.has (i := 3) rfl) (Tryd.isAgg30 _) rfl) ?_
  refine S_copyAll (R := RSeen) (ys := r.seens) (m := (r.seens).length) (i := 1) hS7 rfl sl_r0 (by first | rfl | omega) (by decide) Tryd.underlying30 (by kernel_rfl : _ = some Tryd.t51) rfl rfl rfl (by omega) rfl ?_
  intro w10 hS9
  refine WL.nil ?_
  refine then_normal ?_
  refine WC.seq ?_
  refine WC.region ?_
  refine WL.val1 (R_move (v := .slice (some ⟨w6.heap.size, 0, none⟩) (r.files).length ((r.files).length)) rfl) ?_
  refine WL.val1 (R_fieldAddr (b := w.heap.size) (off := 0) (m := 2) rfl (fun _ => by kernel_rfl)) ?_
  refine WL.val1 (R_load (v := .slice (r_a2) (r.files).length (r_c2)) rfl (hS9.has (i := 3) rfl) (Tryd.isAgg23 _) rfl) ?_
  refine S_copyAll (R := RFile) (ys := r.files) (m := (r.files).length) (i := 0) hS9 rfl sl_r1 (by first | rfl | omega) (by decide) Tryd.underlying23 (by kernel_rfl : _ = some Tryd.t53) rfl rfl rfl (by omega) rfl ?_
  intro w12 hS11
  refine WL.nil ?_
  refine then_normal ?_
  refine WC.seq ?_
  refine WC.region ?_
  refine WL.val1 (R_fieldAddr (b := w.heap.size) (off := 0) (m := 0) rfl (fun _ => by kernel_rfl)) ?_
  refine WL.val1 (R_load (v := .string (B (r.name))) rfl (hS11.has (i := 3) rfl) (Tryd.isAgg9 _) rfl) ?_
  refine WL.val1 (R_move (v := .slice (some ⟨w4.heap.size, 0, none⟩) (r.seens).length ((r.seens).length)) rfl) ?_
  refine WL.val1 (R_move (v := .slice (some ⟨w6.heap.size, 0, none⟩) (r.files).length ((r.files).length)) rfl) ?_
  refine WL.val1 (R_build (vs := [(0, .string (B (r.name))), (1, .slice (some ⟨w4.heap.size, 0, none⟩) (r.seens).length ((r.seens).length)), (2, .slice (some ⟨w6.heap.size, 0, none⟩) (r.files).length ((r.files).length))]) (v := .agg #[.string (B (r.name)), .slice (some ⟨w4.heap.size, 0, none⟩) (r.seens).length ((r.seens).length), .slice (some ⟨w6.heap.size, 0, none⟩) (r.files).length ((r.files).length)]) rfl (fun _ => by kernel_rfl)) ?_
  refine S_store (i := 2) (b := w2.heap.size) (l := [.string (B (([] : Str))), .slice none 0 0, .slice none 0 0]) (l' := [.string (B (r.name)), .slice (some ⟨w4.heap.size, 0, none⟩) (r.seens).length ((r.seens).length), .slice (some ⟨w6.heap.size, 0, none⟩) (r.files).length ((r.files).length)]) (vs := [.string (B (r.name)), .slice (some ⟨w4.heap.size, 0, none⟩) (r.seens).length ((r.seens).length), .slice (some ⟨w6.heap.size, 0, none⟩) (r.files).length ((r.files).length)]) (v := .agg #[.string (B (r.name)), .slice (some ⟨w4.heap.size, 0, none⟩) (r.seens).length ((r.seens).length), .slice (some ⟨w6.heap.size, 0, none⟩) (r.files).length ((r.files).length)]) hS11 rfl rfl rfl Tryd.sizeOf35 rfl rfl rfl (Nat.le_of_ble_eq_true rfl) rfl rfl ?_
  intro w14 hS13
  refine WL.nil ?_
  refine then_normal ?_
  refine WC.ret ?_
  refine top_ret (.agg #[.string (B (r.name)), .slice (some ⟨w4.heap.size, 0, none⟩) (r.seens).length ((r.seens).length), .slice (some ⟨w6.heap.size, 0, none⟩) (r.files).length ((r.files).length)]) (givesL1 (vs := [.agg #[.string (B (r.name)), .slice (some ⟨w4.heap.size, 0, none⟩) (r.seens).length ((r.seens).length), .slice (some ⟨w6.heap.size, 0, none⟩) (r.files).length ((r.files).length)]]) rfl ⟨⟨w2.heap.size, 0, rfl, loadVarA (cs := [.string (B (r.name)), .slice (some ⟨w4.heap.size, 0, none⟩) (r.seens).length ((r.seens).length), .slice (some ⟨w6.heap.size, 0, none⟩) (r.files).length ((r.files).length)]) (hS13.has (i := 2) rfl) (Tryd.isAgg35 _) (Tryd.sizeOf35 _) rfl (sub_cells rfl)⟩, trivial⟩ rfl) ?_
  obtain ⟨h15, hl16, hs17, hS18⟩ := hS13.growCommit (i := 1) rfl (Hp.le_refl _)
  obtain ⟨h19, hl20, hs21, hS22⟩ := hS18.growCommit (i := 0) rfl hl16
  exact ⟨h19, (hl16.trans hl20), ⟨some ⟨w4.heap.size, 0, none⟩, (r.seens).length, some ⟨w6.heap.size, 0, none⟩, (r.files).length, (by rfl), (by first | exact (hs17.mono hl20) | (rw [e_]; exact (hs17.mono hl20))), (by first | exact hs21 | (rw [e_]; exact hs21))⟩, hS22.pop.pop.pop.pop⟩
set_option maxHeartbeats 400000 in
theorem rec_Find (l : List Rec) (l_a : Option Addr) (l_c : Nat) (nm : Str) (hl : l.length ≤ 1000000) (hz : ∀ x ∈ l, x.seens.length ≤ 1000000 ∧ x.files.length ≤ 1000000) : FnC GG Tryd.prog 16 (fun h => Sl RRec h l l_a l_c) [.slice (l_a) (l).length (l_c), .string (B (nm))] (fun h v => ∃ (a : Option Addr) (c : Nat) (a2 : Option Addr) (c2 : Nat), v = .tuple #[.agg #[.string (B ((rfindS l nm).1.name)), .slice (a) ((rfindS l nm).1.seens).length (c), .slice (a2) ((rfindS l nm).1.files).length (c2)], .bool ((rfindS l nm).2)] ∧ (Sl RSeen h (rfindS l nm).1.seens a c) ∧ (Sl RFile h (rfindS l nm).1.files a2 c2)) := by
  intro Γ h L w hpre hS
  have sl_l := hpre
  have hr := rplS_rng l nm
  refine Ret.body Tryd.func16 rfl Tryd.ntmps16 (Nat.le_of_ble_eq_true rfl) ?_
  refine WC.seq ?_
  refine WC.region ?_
  refine S_alloc hS Tryd.zeroValue35 ?_
  intro w2 hS1
  refine WL.val1 (R_assign (v := .bool (false)) rfl) ?_
  refine WL.nil ?_
  refine then_normal ?_
  refine WC.seq ?_
  refine WC.region ?_
  refine WL.val1 (R_move (v := .slice (l_a) (l).length (l_c)) rfl) ?_
  refine WL.val1 (R_move (v := .string (B (nm))) rfl) ?_
  refine S_callP (vs := [.slice (l_a) (l).length (l_c), .string (B (nm))]) hS1 Tryd.call24 rfl (rec_place (l) (l_a) (l_c) (nm) (by first | assumption | omega | exact hb_l_rplS_l_nm_toNat.1 | exact hb_l_rplS_l_nm_toNat.2)) sl_l ?_
  intro w4 hS3
  refine WL.val1 (R_assign (v := .int .i64 ((rplS l nm))) rfl) ?_
  refine WL.nil ?_
  refine then_normal ?_
  refine WC.seq ?_
  refine WC.seq ?_
  refine WC.region ?_
  refine WL.val1 (R_move (v := .int .i64 ((rplS l nm))) rfl) ?_
  refine WL.val1 (R_lss (a := (rplS l nm)) (b := 0) rfl rfl) ?_
  refine WL.nil ?_
  refine then_normal ?_
  refine WC.condP ((rplS l nm) < 0) rfl (fun c0 => ?_) (fun c0 => ?_)
  · skip
    refine WC.seq ?_
    refine WC.region ?_
    refine WL.val1 (R_build (vs := []) (v := .agg #[.string (B (([] : Str))), .slice none 0 0, .slice none 0 0]) rfl (fun _ => by kernel_rfl)) ?_
    refine S_store (i := 0) (b := w.heap.size) (l := [.string (B (([] : Str))), .slice none 0 0, .slice none 0 0]) (l' := [.string (B (([] : Str))), .slice none 0 0, .slice none 0 0]) (vs := [.string (B (([] : Str))), .slice none 0 0, .slice none 0 0]) (v := .agg #[.string (B (([] : Str))), .slice none 0 0, .slice none 0 0]) hS3 rfl rfl rfl Tryd.sizeOf35 rfl rfl rfl (Nat.le_of_ble_eq_true rfl) rfl rfl ?_
    intro w6 hS5
    refine WL.val1 (R_assign (v := .bool (false)) rfl) ?_
    refine WL.nil ?_
    refine then_normal ?_
    refine WC.ret ?_
    refine then_ret ?_
    refine top_ret (.tuple #[.agg #[.string (B (([] : Str))), .slice none 0 0, .slice none 0 0], .bool (false)]) (givesL2 (vs := [.agg #[.string (B (([] : Str))), .slice none 0 0, .slice none 0 0], .bool (false)]) rfl ⟨⟨w.heap.size, 0, rfl, loadVarA (cs := [.string (B (([] : Str))), .slice none 0 0, .slice none 0 0]) (hS5.has (i := 0) rfl) (Tryd.isAgg35 _) (Tryd.sizeOf35 _) rfl (sub_cells rfl)⟩, rfl, trivial⟩ rfl) ?_
    have e_ : rfindS l nm = (⟨[], [], []⟩, false) := if_pos c0
    exact ⟨h, (Hp.le_refl _), ⟨none, 0, none, 0, (by first | rfl | (rw [e_]; done) | (rw [e_]; rfl) | (simp; done)), (by first | exact Sl.nil _ _ _ _ | (rw [e_]; exact Sl.nil _ _ _ _)), (by first | exact Sl.nil _ _ _ _ | (rw [e_]; exact Sl.nil _ _ _ _))⟩, hS5.pop⟩
  · skip
    refine WC.skip ?_
    refine then_normal ?_
    refine WC.seq ?_
    refine WC.region ?_
    refine WL.val1 (R_move (v := .slice (l_a) (l).length (l_c)) rfl) ?_
    refine WL.val1 (R_move (v := .int .i64 ((rplS l nm))) rfl) ?_
    obtain ⟨z_l_rplS_l_nm_toNat, hz_l_rplS_l_nm_toNat⟩ : ∃ z, (l)[((rplS l nm)).toNat]? = some z := ⟨_, List.getElem?_eq_getElem (by omega)⟩
    obtain ⟨b7, o8, cs12, ha9, hr10, hat11⟩ := sl_l.2 ((rplS l nm)).toNat z_l_rplS_l_nm_toNat hz_l_rplS_l_nm_toNat
    obtain ⟨a13, c14, a15, c16, rfl, hs17, hs18⟩ := hr10
    have hb_l_rplS_l_nm_toNat := hz z_l_rplS_l_nm_toNat (List.mem_of_getElem? hz_l_rplS_l_nm_toNat)
    refine WL.val1 (R_indexAddrE (i := (rplS l nm)) (m := ((rplS l nm)).toNat) ha9 rfl rfl Tryd.underlying22 (Tryd.sizeOf35 _) (by first | rfl | (omega)) (by omega)) ?_
    refine WL.val1 (R_loadCA (cs := [.string (B (z_l_rplS_l_nm_toNat.name)), .slice (a13) (z_l_rplS_l_nm_toNat.seens).length (c14), .slice (a15) (z_l_rplS_l_nm_toNat.files).length (c16)]) hS3 rfl hat11 Tryd.isAgg35 Tryd.sizeOf35 rfl) ?_
    refine S_callF (vs := [.agg #[.string (B (z_l_rplS_l_nm_toNat.name)), .slice (a13) (z_l_rplS_l_nm_toNat.seens).length (c14), .slice (a15) (z_l_rplS_l_nm_toNat.files).length (c16)]]) hS3 Tryd.call23 rfl (rec_own (z_l_rplS_l_nm_toNat) (a13) (c14) (a15) (c16) (by first | assumption | omega | exact hb_l_rplS_l_nm_toNat.1 | exact hb_l_rplS_l_nm_toNat.2) (by first | assumption | omega | exact hb_l_rplS_l_nm_toNat.1 | exact hb_l_rplS_l_nm_toNat.2)) ⟨hs17, hs18⟩ ?_
    intro h21 v23 w20 hl22 hp24 hS19
    obtain ⟨a25, c26, a227, c228, rfl, hf29, hf30⟩ := hp24
    refine S_store (i := 0) (b := w.heap.size) (l := [.string (B (([] : Str))), .slice none 0 0, .slice none 0 0]) (l' := [.string (B (z_l_rplS_l_nm_toNat.name)), .slice (a25) (z_l_rplS_l_nm_toNat.seens).length (c26), .slice (a227) (z_l_rplS_l_nm_toNat.files).length (c228)]) (vs := [.string (B (z_l_rplS_l_nm_toNat.name)), .slice (a25) (z_l_rplS_l_nm_toNat.seens).length (c26), .slice (a227) (z_l_rplS_l_nm_toNat.files).length (c228)]) (v := .agg #[.string (B (z_l_rplS_l_nm_toNat.name)), .slice (a25) (z_l_rplS_l_nm_toNat.seens).length (c26), .slice (a227) (z_l_rplS_l_nm_toNat.files).length (c228)]) hS19 rfl rfl rfl Tryd.sizeOf35 rfl rfl rfl (Nat.le_of_ble_eq_true rfl) rfl rfl ?_
    intro w32 hS31
    refine WL.val1 (R_assign (v := .bool (true)) rfl) ?_
    refine WL.nil ?_
    refine then_normal ?_
    refine WC.ret ?_
    refine top_ret (.tuple #[.agg #[.string (B (z_l_rplS_l_nm_toNat.name)), .slice (a25) (z_l_rplS_l_nm_toNat.seens).length (c26), .slice (a227) (z_l_rplS_l_nm_toNat.files).length (c228)], .bool (true)]) (givesL2 (vs := [.agg #[.string (B (z_l_rplS_l_nm_toNat.name)), .slice (a25) (z_l_rplS_l_nm_toNat.seens).length (c26), .slice (a227) (z_l_rplS_l_nm_toNat.files).length (c228)], .bool (true)]) rfl ⟨⟨w.heap.size, 0, rfl, loadVarA (cs := [.string (B (z_l_rplS_l_nm_toNat.name)), .slice (a25) (z_l_rplS_l_nm_toNat.seens).length (c26), .slice (a227) (z_l_rplS_l_nm_toNat.files).length (c228)]) (hS31.has (i := 0) rfl) (Tryd.isAgg35 _) (Tryd.sizeOf35 _) rfl (sub_cells rfl)⟩, rfl, trivial⟩ rfl) ?_
    have e_ : rfindS l nm = (z_l_rplS_l_nm_toNat, true) := by rw [rfindS, if_neg c0, getD_of hz_l_rplS_l_nm_toNat]
    exact ⟨h21, hl22, ⟨a25, c26, a227, c228, (by first | rfl | (rw [e_]; done) | (rw [e_]; rfl) | (simp; done)), (by first | exact hf29 | (rw [e_]; exact hf29)), (by first | exact hf30 | (rw [e_]; exact hf30))⟩, hS31.pop⟩
set_option maxHeartbeats 400000 in
theorem rec_Put (l : List Rec) (l_a : Option Addr) (l_c : Nat) (r : Rec) (r_a1 : Option Addr) (r_c1 : Nat) (r_a2 : Option Addr) (r_c2 : Nat) (hl : l.length ≤ 1000000) (hz : ∀ x ∈ l, x.seens.length ≤ 1000000 ∧ x.files.length ≤ 1000000) (hs : r.seens.length ≤ 1000000) (hf : r.files.length ≤ 1000000) : FnC GG Tryd.prog 14 (fun h => Sl RRec h l l_a l_c ∧ Sl RSeen h r.seens r_a1 r_c1 ∧ Sl RFile h r.files r_a2 r_c2) [.slice (l_a) (l).length (l_c), .agg #[.string (B (r.name)), .slice (r_a1) (r.seens).length (r_c1), .slice (r_a2) (r.files).length (r_c2)]] (fun h v => ∃ (a : Option Addr) (c : Nat), v = .slice (a) ((rputS l r)).length (c) ∧ (Sl RRec h (rputS l r) a c)) := by
  intro Γ h L w hpre hS
  obtain ⟨sl_l, sl_r0, sl_r1⟩ := hpre
  have hr := rplS_rng l r.name
  refine Ret.body Tryd.func14 rfl Tryd.ntmps14 (Nat.le_of_ble_eq_true rfl) ?_
  refine WC.seq ?_
  refine WC.region ?_
  refine S_box (l := [.string (B (r.name)), .slice (r_a1) (r.seens).length (r_c1), .slice (r_a2) (r.files).length (r_c2)]) (v := .agg #[.string (B (r.name)), .slice (r_a1) (r.seens).length (r_c1), .slice (r_a2) (r.files).length (r_c2)]) hS rfl rfl ?_
  intro w2 hS1
  refine WL.val1 (R_assign (v := .slice none 0 0) rfl) ?_
  refine WL.nil ?_
  refine then_normal ?_
  refine WC.seq ?_
  refine WC.region ?_
  refine WL.val1 (R_assign (v := .slice none 0 0) rfl) ?_
  refine WL.nil ?_
  refine then_normal ?_
  refine WC.seq ?_
  refine WC.seq ?_
  refine WC.region ?_
  refine WL.val1 (R_move (v := .slice (l_a) (l).length (l_c)) rfl) ?_
  refine WL.val1 (R_len_slice (n := (l).length) rfl Tryd.underlying22) ?_
  refine WL.val1 (R_move (v := .int .i64 (0)) rfl) ?_
  refine WL.nil ?_
  refine then_normal ?_
  refine WC.block ?_
  have hS3 := hS1.growNil 35 RRec h
  refine WC.loopL (σ := Nat × (List Rec) × (Option Addr) × Nat)
    (fun (q_ : Nat × (List Rec) × (Option Addr) × Nat) => (fun (i : Nat) (acc : List Rec) (acc_a : Option Addr) (acc_c : Nat) => [(0, .slice (l_a) (l).length (l_c)), (3, .pointer (some ⟨w.heap.size, 0, none⟩)), (5, .slice (acc_a) (acc).length (acc_c)), (9, .slice (l_a) (l).length (l_c)), (10, .int .i64 ((((l).length : Nat) : Int))), (11, .int .i64 (((i : Nat) : Int)))]) (q_.1) (q_.2.1) (q_.2.2.1) (q_.2.2.2))
    (fun (q_ : Nat × (List Rec) × (Option Addr) × Nat) (w_ : World) => (fun (i : Nat) (acc : List Rec) (acc_a : Option Addr) (acc_c : Nat) => ∃ h6 : Hp, h.le h6 ∧ St Γ h6 (grow 35 RRec h6 (acc) (acc_a) (acc_c) :: row (w.heap.size) [.string (B (r.name)), .slice (r_a1) (r.seens).length (r_c1), .slice (r_a2) (r.files).length (r_c2)] 35 :: L) w_ ∧ (i ≤ l.length) ∧ (acc = l.take i)) (q_.1) (q_.2.1) (q_.2.2.1) (q_.2.2.2))
    (fun (q_ : Nat × (List Rec) × (Option Addr) × Nat) => (fun (i : Nat) (acc : List Rec) (acc_a : Option Addr) (acc_c : Nat) => l.length - i) (q_.1) (q_.2.1) (q_.2.2.1) (q_.2.2.2)) (0, ([] : List Rec), none, 0) ?_ ?_ ?_
  · exact ⟨rfl, rfl, (by first | rfl | (apply congrArg (Value.int .i64); omega) | simp), rfl, rfl, (by first | rfl | (apply congrArg (Value.int .i64); omega) | simp), trivial⟩
  · exact ⟨h, Hp.le_refl _, hS3, (by first | assumption | omega | simp), (by rfl)⟩
  · rintro ⟨i, acc, acc_a, acc_c⟩ r8 w5 ⟨h6, hl7, hS4, f1, f2⟩
    try dsimp only at f1 f2
    have f3 : acc.length = i := by rw [f2, List.length_take]; omega
    refine WC.seq ?_
    refine WC.region ?_
    refine WL.val1 (R_lss (a := ((i : Nat) : Int)) (b := (((l).length : Nat) : Int)) rfl rfl) ?_
    refine WL.nil ?_
    refine then_normal ?_
    refine WC.seq ?_
    refine WC.condP (((i : Nat) : Int) < (((l).length : Nat) : Int)) rfl (fun c0 => ?_) (fun c0 => ?_)
    · skip
      refine WC.skip ?_
      refine then_normal ?_
      refine WC.seq ?_
      refine WC.block ?_
      refine WC.seq ?_
      refine WC.region ?_
      obtain ⟨z_l_i, hz_l_i⟩ : ∃ z, (l)[i]? = some z := ⟨_, List.getElem?_eq_getElem (by omega)⟩
      obtain ⟨b9, o10, cs14, ha11, hr12, hat13⟩ := (sl_l.mono hl7).2 i z_l_i hz_l_i
      obtain ⟨a15, c16, a17, c18, rfl, hs19, hs20⟩ := hr12
      have hb_l_i := hz z_l_i (List.mem_of_getElem? hz_l_i)
      refine WL.val1 (R_indexAddrE (i := ((i : Nat) : Int)) (m := i) ha11 rfl rfl Tryd.underlying22 (Tryd.sizeOf35 _) (by first | rfl | (omega)) (by omega)) ?_
      refine WL.val1 (R_loadCA (cs := [.string (B (z_l_i.name)), .slice (a15) (z_l_i.seens).length (c16), .slice (a17) (z_l_i.files).length (c18)]) hS4 rfl hat13 Tryd.isAgg35 Tryd.sizeOf35 rfl) ?_
      refine S_alloc hS4 Tryd.zeroValue35 ?_
      intro w22 hS21
      refine S_store (i := 0) (b := w5.heap.size) (l := [.string (B (([] : Str))), .slice none 0 0, .slice none 0 0]) (l' := [.string (B (z_l_i.name)), .slice (a15) (z_l_i.seens).length (c16), .slice (a17) (z_l_i.files).length (c18)]) (vs := [.string (B (z_l_i.name)), .slice (a15) (z_l_i.seens).length (c16), .slice (a17) (z_l_i.files).length (c18)]) (v := .agg #[.string (B (z_l_i.name)), .slice (a15) (z_l_i.seens).length (c16), .slice (a17) (z_l_i.files).length (c18)]) hS21 rfl rfl rfl Tryd.sizeOf35 rfl rfl rfl (Nat.le_of_ble_eq_true rfl) rfl rfl ?_
      intro w24 hS23
      refine WL.nil ?_
      refine then_normal ?_
      refine WC.region ?_
      refine WL.val1 (R_move (v := .slice (acc_a) (acc).length (acc_c)) rfl) ?_
      refine WL.val1 (R_loadA (cs := [.string (B (z_l_i.name)), .slice (a15) (z_l_i.seens).length (c16), .slice (a17) (z_l_i.files).length (c18)]) rfl (hS23.has (i := 0) rfl) (Tryd.isAgg35 _) (Tryd.sizeOf35 _) rfl (sub_cells rfl)) ?_
      refine S_callF (vs := [.agg #[.string (B (z_l_i.name)), .slice (a15) (z_l_i.seens).length (c16), .slice (a17) (z_l_i.files).length (c18)]]) hS23 Tryd.call23 rfl (rec_own (z_l_i) (a15) (c16) (a17) (c18) (by first | assumption | omega | exact hb_l_i.1 | exact hb_l_i.2) (by first | assumption | omega | exact hb_l_i.1 | exact hb_l_i.2)) ⟨hs19, hs20⟩ ?_
      intro h27 v29 w26 hl28 hp30 hS25
      obtain ⟨a31, c32, a233, c234, rfl, hf35, hf36⟩ := hp30
      refine S_buildSliceC (R := RRec) (m := 1) (vs := [(0, .agg #[.string (B (z_l_i.name)), .slice (a31) (z_l_i.seens).length (c32), .slice (a233) (z_l_i.files).length (c234)])]) (cells := [.string (B (z_l_i.name)), .slice (a31) (z_l_i.seens).length (c32), .slice (a233) (z_l_i.files).length (c234)]) (xs := [z_l_i]) hS25 Tryd.underlying22 Tryd.sizeOf35 Tryd.zeroValue35 (by decide) (by decide) rfl (by kernel_rfl) (by exact (⟨[.string (B (z_l_i.name)), .slice (a31) (z_l_i.seens).length (c32), .slice (a233) (z_l_i.files).length (c234)], _, rfl, ⟨a31, c32, a233, c234, rfl, hf35, hf36⟩, rfl⟩ : Flat RRec _ [z_l_i] _)) rfl ?_
      intro h39 b41 w38 hl40 hs42 hS37
      refine S_append (info := Tryd.t35) (R := RRec) (xs := acc) (ys := [z_l_i]) (a := acc_a) (c := acc_c) 1 Tryd.underlying22 (by kernel_rfl) rfl rfl rfl (by decide) 64 rfl hS37 rfl (hl28.trans hl40) hs42 rfl rfl (by (try simp only [List.length_append, List.length_cons, List.length_nil]); omega) (by (try simp only [List.length_append, List.length_cons, List.length_nil]); omega) ?_
      intro a43 c44 w45 hS46
      refine WL.val1 (R_assign (v := .slice (a43) ((acc ++ [z_l_i])).length (c44)) rfl) ?_
      refine WL.nil ?_
      refine block_normal ?_
      refine then_normal ?_
      refine WC.region ?_
      refine WL.val1 (R_add_i (a := ((i : Nat) : Int)) (b := 1) rfl rfl (by omega)) ?_
      refine WL.val1 (R_move (v := .int .i64 ((((i : Nat) : Int) + 1))) rfl) ?_
      refine WL.nil ?_
      refine then_normal ?_
      exact ⟨(i + 1, (acc ++ [z_l_i]), a43, c44), ⟨rfl, rfl, (by first | rfl | (apply congrArg (Value.int .i64); omega) | simp), rfl, rfl, (by first | rfl | (apply congrArg (Value.int .i64); omega) | simp), trivial⟩, ⟨h39, ((hl7.trans hl28).trans hl40), hS46.pop, (by (try dsimp only); first | assumption | omega | simp), (by (try dsimp only); rw [f2, take_succ' hz_l_i])⟩, (by first | (simp only []; omega) | (simp; omega))⟩
    · skip
      refine WC.exit ?_
      refine then_exit ?_
      refine then_exit ?_
      refine block_exit ?_
      refine then_normal ?_
      refine WC.seq ?_
      refine WC.seq ?_
      have f4 : acc = l := by rw [f2, List.take_of_length_le (by omega)]
      refine WC.region ?_
      refine WL.val1 (R_move (v := .slice (l_a) (l).length (l_c)) rfl) ?_
      refine WL.val1 (R_fieldAddr (b := w.heap.size) (off := 0) (m := 0) rfl (fun _ => by kernel_rfl)) ?_
      refine WL.val1 (R_load (v := .string (B (r.name))) rfl (hS4.has (i := 1) rfl) (Tryd.isAgg9 _) rfl) ?_
      refine S_callP (vs := [.slice (l_a) (l).length (l_c), .string (B (r.name))]) hS4 Tryd.call24 rfl (rec_place (l) (l_a) (l_c) (r.name) (by first | assumption | omega | exact hb_l_i.1 | exact hb_l_i.2)) (sl_l.mono hl7) ?_
      intro w48 hS47
      refine WL.val1 (R_assign (v := .int .i64 ((rplS l r.name))) rfl) ?_
      refine WL.nil ?_
      refine then_normal ?_
      refine WC.seq ?_
      refine WC.region ?_
      refine WL.val1 (R_move (v := .int .i64 ((rplS l r.name))) rfl) ?_
      refine WL.val1 (R_geq (a := (rplS l r.name)) (b := 0) rfl rfl) ?_
      refine WL.nil ?_
      refine then_normal ?_
      refine WC.condP (0 ≤ (rplS l r.name)) rfl (fun c1 => ?_) (fun c1 => ?_)
      · skip
        refine WC.seq ?_
        refine WC.region ?_
        refine WL.val1 (R_move (v := .slice (acc_a) (acc).length (acc_c)) rfl) ?_
        refine WL.val1 (R_move (v := .int .i64 ((rplS l r.name))) rfl) ?_
        refine WL.val1 (R_loadA (cs := [.string (B (r.name)), .slice (r_a1) (r.seens).length (r_c1), .slice (r_a2) (r.files).length (r_c2)]) rfl (hS47.has (i := 1) rfl) (Tryd.isAgg35 _) (Tryd.sizeOf35 _) rfl (sub_cells rfl)) ?_
        refine S_callF (vs := [.agg #[.string (B (r.name)), .slice (r_a1) (r.seens).length (r_c1), .slice (r_a2) (r.files).length (r_c2)]]) hS47 Tryd.call23 rfl (rec_own ({ name := r.name, seens := r.seens, files := r.files : Rec }) (r_a1) (r_c1) (r_a2) (r_c2) (by first | assumption | omega | exact hb_l_i.1 | exact hb_l_i.2) (by first | assumption | omega | exact hb_l_i.1 | exact hb_l_i.2)) ⟨(sl_r0.mono hl7), (sl_r1.mono hl7)⟩ ?_
        intro h51 v53 w50 hl52 hp54 hS49
        obtain ⟨a55, c56, a257, c258, rfl, hf59, hf60⟩ := hp54
        obtain ⟨b61, hb62⟩ := hS49.growSome (i := 0) rfl (m := ((rplS l r.name)).toNat) (by (try simp only [List.length_append, List.length_cons, List.length_nil]); omega)
        refine WL.val1 (R_indexAddrE (i := (rplS l r.name)) (m := ((rplS l r.name)).toNat) hb62 rfl rfl Tryd.underlying22 (Tryd.sizeOf35 _) (by first | rfl | (omega)) (by (try simp only [List.length_append, List.length_cons, List.length_nil]); omega)) ?_
        refine S_storeG (R := RRec) (i := 0) (m := ((rplS l r.name)).toNat) (vs := [.string (B (({ name := r.name, seens := r.seens, files := r.files : Rec }).name)), .slice (a55) (({ name := r.name, seens := r.seens, files := r.files : Rec }).seens).length (c56), .slice (a257) (({ name := r.name, seens := r.seens, files := r.files : Rec }).files).length (c258)]) (z := ({ name := r.name, seens := r.seens, files := r.files : Rec })) hS49 rfl hl52 hb62 (by (try simp only [List.length_append, List.length_cons, List.length_nil]); omega) rfl (by simp [RRec]) rfl rfl (⟨a55, c56, a257, c258, rfl, hf59, hf60⟩) Tryd.sizeOf35 rfl ?_
        intro w64 hS63
        refine WL.nil ?_
        refine then_normal ?_
        refine WC.seq ?_
        refine WC.region ?_
        refine WL.val1 (R_move (v := .slice (acc_a) (acc).length (acc_c)) rfl) ?_
        refine WL.val1 (R_assign (v := .slice (acc_a) (acc).length (acc_c)) rfl) ?_
        refine WL.nil ?_
        refine then_normal ?_
        refine WC.ret ?_
        refine then_ret ?_
        refine top_ret (.slice (acc_a) (acc).length (acc_c)) (gives1 rfl rfl) ?_
        obtain ⟨h65, hl66, hs67, hS68⟩ := hS63.growCommit (i := 0) rfl (Hp.le_refl _)
        have e_ : rputS l r = acc.set (rplS l r.name).toNat r := by rw [rputS, if_pos (by omega), f4]
        exact ⟨h65, ((hl7.trans hl52).trans hl66), ⟨acc_a, acc_c, (by rw [e_, List.length_set]), (by first | exact hs67 | (rw [e_]; exact hs67))⟩, hS68.pop.pop⟩
      · skip
        refine WC.skip ?_
        refine then_normal ?_
        refine WC.seq ?_
        refine WC.region ?_
        refine WL.val1 (R_move (v := .slice (acc_a) (acc).length (acc_c)) rfl) ?_
        refine WL.val1 (R_loadA (cs := [.string (B (r.name)), .slice (r_a1) (r.seens).length (r_c1), .slice (r_a2) (r.files).length (r_c2)]) rfl (hS47.has (i := 1) rfl) (Tryd.isAgg35 _) (Tryd.sizeOf35 _) rfl (sub_cells rfl)) ?_
        refine S_callF (vs := [.agg #[.string (B (r.name)), .slice (r_a1) (r.seens).length (r_c1), .slice (r_a2) (r.files).length (r_c2)]]) hS47 Tryd.call23 rfl (rec_own ({ name := r.name, seens := r.seens, files := r.files : Rec }) (r_a1) (r_c1) (r_a2) (r_c2) (by first | assumption | omega | exact hb_l_i.1 | exact hb_l_i.2) (by first | assumption | omega | exact hb_l_i.1 | exact hb_l_i.2)) ⟨(sl_r0.mono hl7), (sl_r1.mono hl7)⟩ ?_
        intro h71 v73 w70 hl72 hp74 hS69
        obtain ⟨a75, c76, a277, c278, rfl, hf79, hf80⟩ := hp74
        refine S_buildSliceC (R := RRec) (m := 1) (vs := [(0, .agg #[.string (B (({ name := r.name, seens := r.seens, files := r.files : Rec }).name)), .slice (a75) (({ name := r.name, seens := r.seens, files := r.files : Rec }).seens).length (c76), .slice (a277) (({ name := r.name, seens := r.seens, files := r.files : Rec }).files).length (c278)])]) (cells := [.string (B (({ name := r.name, seens := r.seens, files := r.files : Rec }).name)), .slice (a75) (({ name := r.name, seens := r.seens, files := r.files : Rec }).seens).length (c76), .slice (a277) (({ name := r.name, seens := r.seens, files := r.files : Rec }).files).length (c278)]) (xs := [({ name := r.name, seens := r.seens, files := r.files : Rec })]) hS69 Tryd.underlying22 Tryd.sizeOf35 Tryd.zeroValue35 (by decide) (by decide) rfl (by kernel_rfl) (by exact (⟨[.string (B (({ name := r.name, seens := r.seens, files := r.files : Rec }).name)), .slice (a75) (({ name := r.name, seens := r.seens, files := r.files : Rec }).seens).length (c76), .slice (a277) (({ name := r.name, seens := r.seens, files := r.files : Rec }).files).length (c278)], _, rfl, ⟨a75, c76, a277, c278, rfl, hf79, hf80⟩, rfl⟩ : Flat RRec _ [({ name := r.name, seens := r.seens, files := r.files : Rec })] _)) rfl ?_
        intro h83 b85 w82 hl84 hs86 hS81
        refine S_append (info := Tryd.t35) (R := RRec) (xs := acc) (ys := [({ name := r.name, seens := r.seens, files := r.files : Rec })]) (a := acc_a) (c := acc_c) 0 Tryd.underlying22 (by kernel_rfl) rfl rfl rfl (by decide) 64 rfl hS81 rfl (hl72.trans hl84) hs86 rfl rfl (by (try simp only [List.length_append, List.length_cons, List.length_nil]); omega) (by (try simp only [List.length_append, List.length_cons, List.length_nil]); omega) ?_
        intro a87 c88 w89 hS90
        refine WL.val1 (R_assign (v := .slice (a87) ((acc ++ [({ name := r.name, seens := r.seens, files := r.files : Rec })])).length (c88)) rfl) ?_
        refine WL.nil ?_
        refine then_normal ?_
        refine WC.ret ?_
        refine top_ret (.slice (a87) ((acc ++ [({ name := r.name, seens := r.seens, files := r.files : Rec })])).length (c88)) (gives1 rfl rfl) ?_
        obtain ⟨h91, hl92, hs93, hS94⟩ := hS90.growCommit (i := 0) rfl (Hp.le_refl _)
        have e_ : rputS l r = acc ++ [r] := by rw [rputS, if_neg (by omega), f4]
        exact ⟨h91, (((hl7.trans hl72).trans hl84).trans hl92), ⟨a87, c88, (by rw [e_]), (by first | exact hs93 | (rw [e_]; exact hs93))⟩, hS94.pop.pop⟩
set_option maxHeartbeats 400000 in
theorem rec_Fresh (r : Rec) (r_a1 : Option Addr) (r_c1 : Nat) (r_a2 : Option Addr) (r_c2 : Nat) (fs : List File) (fs_a : Option Addr) (fs_c : Nat) (hl : fs.length ≤ 1000000) (hs : r.seens.length ≤ 1000000) (hf : r.files.length ≤ 1000000) : PureC GG Tryd.prog 10 (fun h => Sl RSeen h r.seens r_a1 r_c1 ∧ Sl RFile h r.files r_a2 r_c2 ∧ Sl RFile h fs fs_a fs_c) [.agg #[.string (B (r.name)), .slice (r_a1) (r.seens).length (r_c1), .slice (r_a2) (r.files).length (r_c2)], .slice (fs_a) (fs).length (fs_c)] (.bool (freshS r fs)) := by
  intro Γ h L w hpre hS
  obtain ⟨sl_r0, sl_r1, sl_fs⟩ := hpre
  refine Ret.body Tryd.func10 rfl Tryd.ntmps10 (Nat.le_of_ble_eq_true rfl) ?_
  refine WC.seq ?_
  refine WC.region ?_
  refine S_box (l := [.string (B (r.name)), .slice (r_a1) (r.seens).length (r_c1), .slice (r_a2) (r.files).length (r_c2)]) (v := .agg #[.string (B (r.name)), .slice (r_a1) (r.seens).length (r_c1), .slice (r_a2) (r.files).length (r_c2)]) hS rfl rfl ?_
  intro w2 hS1
  refine WL.val1 (R_assign (v := .bool (false)) rfl) ?_
  refine WL.nil ?_
  refine then_normal ?_
  refine WC.seq ?_
  refine WC.seq ?_
  refine WC.region ?_
  refine WL.val1 (R_fieldAddr (b := w.heap.size) (off := 0) (m := 1) rfl (fun _ => by kernel_rfl)) ?_
  refine WL.val1 (R_load (v := .slice (r_a1) (r.seens).length (r_c1)) rfl (hS1.has (i := 0) rfl) (Tryd.isAgg30 _) rfl) ?_
  refine WL.val1 (R_len_slice (n := (r.seens).length) rfl Tryd.underlying30) ?_
  refine WL.val1 (R_move (v := .int .i64 (0)) rfl) ?_
  refine WL.nil ?_
  refine then_normal ?_
  refine WC.block ?_
  refine WC.loopL (σ := Nat)
    (fun (q_ : Nat) => (fun (i : Nat) => [(1, .slice (fs_a) (fs).length (fs_c)), (2, .pointer (some ⟨w.heap.size, 0, none⟩)), (14, .slice (r_a1) (r.seens).length (r_c1)), (15, .int .i64 ((((r.seens).length : Nat) : Int))), (16, .int .i64 (((i : Nat) : Int)))]) (q_))
    (fun (q_ : Nat) (w_ : World) => (fun (i : Nat) => ∃ h5 : Hp, h.le h5 ∧ St Γ h5 (row (w.heap.size) [.string (B (r.name)), .slice (r_a1) (r.seens).length (r_c1), .slice (r_a2) (r.files).length (r_c2)] 35 :: L) w_ ∧ (i ≤ r.seens.length) ∧ ((r.seens.drop i).all (fun x => sameSeen x (lookOne fs x.name)) = r.seens.all (fun x => sameSeen x (lookOne fs x.name)))) (q_))
    (fun (q_ : Nat) => (fun (i : Nat) => r.seens.length - i) (q_)) (0) ?_ ?_ ?_
  · exact ⟨rfl, rfl, rfl, rfl, (by first | rfl | (apply congrArg (Value.int .i64); omega) | simp), trivial⟩
  · exact ⟨h, Hp.le_refl _, hS1, (by first | assumption | omega | simp), (by rfl)⟩
  · rintro i r7 w4 ⟨h5, hl6, hS3, f1, f2⟩
    try dsimp only at f1 f2
    refine WC.seq ?_
    refine WC.region ?_
    refine WL.val1 (R_lss (a := ((i : Nat) : Int)) (b := (((r.seens).length : Nat) : Int)) rfl rfl) ?_
    refine WL.nil ?_
    refine then_normal ?_
    refine WC.seq ?_
    refine WC.condP (((i : Nat) : Int) < (((r.seens).length : Nat) : Int)) rfl (fun c0 => ?_) (fun c0 => ?_)
    · skip
      refine WC.skip ?_
      refine then_normal ?_
      refine WC.seq ?_
      refine WC.block ?_
      refine WC.seq ?_
      refine WC.region ?_
      obtain ⟨z_r_seens_i, hz_r_seens_i⟩ : ∃ z, (r.seens)[i]? = some z := ⟨_, List.getElem?_eq_getElem (by omega)⟩
      obtain ⟨b8, o9, cs13, ha10, hr11, hat12⟩ := (sl_r0.mono hl6).2 i z_r_seens_i hz_r_seens_i
      subst hr11
      refine WL.val1 (R_indexAddrE (i := ((i : Nat) : Int)) (m := i) ha10 rfl rfl Tryd.underlying30 (Tryd.sizeOf51 _) (by first | rfl | (omega)) (by omega)) ?_
      refine WL.val1 (R_loadCA (cs := [.string (B (z_r_seens_i.name)), .bool (z_r_seens_i.there), .string (B (z_r_seens_i.text))]) hS3 rfl hat12 Tryd.isAgg51 Tryd.sizeOf51 rfl) ?_
      refine S_alloc hS3 Tryd.zeroValue51 ?_
      intro w15 hS14
      refine S_store (i := 0) (b := w4.heap.size) (l := [.string (B (([] : Str))), .bool (false), .string (B (([] : Str)))]) (l' := [.string (B (z_r_seens_i.name)), .bool (z_r_seens_i.there), .string (B (z_r_seens_i.text))]) (vs := [.string (B (z_r_seens_i.name)), .bool (z_r_seens_i.there), .string (B (z_r_seens_i.text))]) (v := .agg #[.string (B (z_r_seens_i.name)), .bool (z_r_seens_i.there), .string (B (z_r_seens_i.text))]) hS14 rfl rfl rfl Tryd.sizeOf51 rfl rfl rfl (Nat.le_of_ble_eq_true rfl) rfl rfl ?_
      intro w17 hS16
      refine WL.nil ?_
      refine then_normal ?_
      refine WC.seq ?_
      refine WC.region ?_
      refine WL.val1 (R_move (v := .slice (fs_a) (fs).length (fs_c)) rfl) ?_
      refine WL.val1 (R_fieldAddr (b := w4.heap.size) (off := 0) (m := 0) rfl (fun _ => by kernel_rfl)) ?_
      refine WL.val1 (R_load (v := .string (B (z_r_seens_i.name))) rfl (hS16.has (i := 0) rfl) (Tryd.isAgg9 _) rfl) ?_
      refine S_callP (vs := [.slice (fs_a) (fs).length (fs_c), .string (B (z_r_seens_i.name))]) hS16 Tryd.call21 rfl (files_Get (fs) (fs_a) (fs_c) (z_r_seens_i.name) (by first | assumption | omega)) (sl_fs.mono hl6) ?_
      intro w19 hS18
      refine WL.val1 (R_move (v := .tuple #[.string (B ((fgetS fs z_r_seens_i.name).1)), .bool ((fgetS fs z_r_seens_i.name).2)]) rfl) ?_
      refine WL.val1 (R_extract (vs := ([.string (B ((fgetS fs z_r_seens_i.name).1)), .bool ((fgetS fs z_r_seens_i.name).2)] : List Value).toArray) (v := .string (B ((fgetS fs z_r_seens_i.name).1))) rfl rfl) ?_
      refine WL.val1 (R_extract (vs := ([.string (B ((fgetS fs z_r_seens_i.name).1)), .bool ((fgetS fs z_r_seens_i.name).2)] : List Value).toArray) (v := .bool ((fgetS fs z_r_seens_i.name).2)) rfl rfl) ?_
      refine WL.val1 (R_assign (v := .string (B ((fgetS fs z_r_seens_i.name).1))) rfl) ?_
      refine WL.val1 (R_assign (v := .bool ((fgetS fs z_r_seens_i.name).2)) rfl) ?_
      refine WL.nil ?_
      refine then_normal ?_
      refine WC.seq ?_
      refine WC.region ?_
      refine WL.val1 (R_loadA (cs := [.string (B (z_r_seens_i.name)), .bool (z_r_seens_i.there), .string (B (z_r_seens_i.text))]) rfl (hS18.has (i := 0) rfl) (Tryd.isAgg51 _) (Tryd.sizeOf51 _) rfl (sub_cells rfl)) ?_
      refine WL.val1 (R_fieldAddr (b := w4.heap.size) (off := 0) (m := 0) rfl (fun _ => by kernel_rfl)) ?_
      refine WL.val1 (R_load (v := .string (B (z_r_seens_i.name))) rfl (hS18.has (i := 0) rfl) (Tryd.isAgg9 _) rfl) ?_
      refine WL.val1 (R_move (v := .bool ((fgetS fs z_r_seens_i.name).2)) rfl) ?_
      refine WL.val1 (R_move (v := .string (B ((fgetS fs z_r_seens_i.name).1))) rfl) ?_
      refine WL.val1 (R_build (vs := [(0, .string (B (z_r_seens_i.name))), (1, .bool ((fgetS fs z_r_seens_i.name).2)), (2, .string (B ((fgetS fs z_r_seens_i.name).1)))]) (v := .agg #[.string (B (z_r_seens_i.name)), .bool ((fgetS fs z_r_seens_i.name).2), .string (B ((fgetS fs z_r_seens_i.name).1))]) rfl (fun _ => by kernel_rfl)) ?_
      refine WL.val1 (R_aggNeq (c := (decide (z_r_seens_i.name = z_r_seens_i.name) && (decide (z_r_seens_i.there = (fgetS fs z_r_seens_i.name).2) && (decide (z_r_seens_i.text = (fgetS fs z_r_seens_i.name).1) && true)))) (xs := #[.string (B (z_r_seens_i.name)), .bool (z_r_seens_i.there), .string (B (z_r_seens_i.text))]) (ys := #[.string (B (z_r_seens_i.name)), .bool ((fgetS fs z_r_seens_i.name).2), .string (B ((fgetS fs z_r_seens_i.name).1))]) rfl rfl (by kernel_rfl) Tryd.underlying51 (by kernel_rfl) (eqFields_cons (by decide) Tryd.isAgg9 rfl rfl (eqIn_str Tryd.underlying9) (eqFields_cons (by decide) Tryd.isAgg4 rfl rfl (eqIn_bool Tryd.underlying4) (eqFields_cons (by decide) Tryd.isAgg9 rfl rfl (eqIn_str Tryd.underlying9) eqFields_nil)))) ?_
      refine WL.nil ?_
      refine then_normal ?_
      refine WC.condI (¬ (((z_r_seens_i.name = z_r_seens_i.name) ∧ ((z_r_seens_i.there = (fgetS fs z_r_seens_i.name).2) ∧ ((z_r_seens_i.text = (fgetS fs z_r_seens_i.name).1) ∧ True))))) (b := (!((decide (z_r_seens_i.name = z_r_seens_i.name) && (decide (z_r_seens_i.there = (fgetS fs z_r_seens_i.name).2) && (decide (z_r_seens_i.text = (fgetS fs z_r_seens_i.name).1) && true)))))) rfl (b_not (b_and b_dec (b_and b_dec (b_and b_dec b_true)))) (fun c1 => ?_) (fun c1 => ?_)
      · skip
        refine WC.seq ?_
        refine WC.region ?_
        refine WL.val1 (R_assign (v := .bool (false)) rfl) ?_
        refine WL.nil ?_
        refine then_normal ?_
        refine WC.ret ?_
        refine block_ret ?_
        refine then_ret ?_
        refine then_ret ?_
        refine block_ret ?_
        refine then_ret ?_
        refine top_ret (.bool (false)) (gives1 rfl rfl) ?_
        exact ⟨(by rw [freshS, ← f2, all_step hz_r_seens_i, show sameSeen z_r_seens_i (lookOne fs z_r_seens_i.name) = false from decide_eq_false fun hh => c1 ⟨hh.1, hh.2.1, hh.2.2, trivial⟩]; rfl), (hS18.pop.pop.weaken_h hl6)⟩
      · skip
        refine WC.skip ?_
        refine block_normal ?_
        refine then_normal ?_
        refine WC.region ?_
        refine WL.val1 (R_add_i (a := ((i : Nat) : Int)) (b := 1) rfl rfl (by omega)) ?_
        refine WL.val1 (R_move (v := .int .i64 ((((i : Nat) : Int) + 1))) rfl) ?_
        refine WL.nil ?_
        refine then_normal ?_
        exact ⟨(i + 1), ⟨rfl, rfl, rfl, rfl, (by first | rfl | (apply congrArg (Value.int .i64); omega) | simp), trivial⟩, ⟨h5, hl6, hS18.pop, (by (try dsimp only); first | assumption | omega | simp), (by (try dsimp only); rw [← f2, all_step hz_r_seens_i]; have c3 := Decidable.not_not.1 c1; rw [show sameSeen z_r_seens_i (lookOne fs z_r_seens_i.name) = true from decide_eq_true ⟨c3.1, c3.2.1, c3.2.2.1⟩, Bool.true_and])⟩, (by first | (simp only []; omega) | (simp; omega))⟩
    · skip
      refine WC.exit ?_
      refine then_exit ?_
      refine then_exit ?_
      refine block_exit ?_
      refine then_normal ?_
      refine WC.seq ?_
      refine WC.seq ?_
      have f3 : r.seens.all (fun x => sameSeen x (lookOne fs x.name)) = true := by rw [← f2, all_end (by omega)]
      refine WC.region ?_
      refine WL.val1 (R_fieldAddr (b := w.heap.size) (off := 0) (m := 2) rfl (fun _ => by kernel_rfl)) ?_
      refine WL.val1 (R_load (v := .slice (r_a2) (r.files).length (r_c2)) rfl (hS3.has (i := 0) rfl) (Tryd.isAgg23 _) rfl) ?_
      refine WL.val1 (R_len_slice (n := (r.files).length) rfl Tryd.underlying23) ?_
      refine WL.val1 (R_move (v := .int .i64 (0)) rfl) ?_
      refine WL.nil ?_
      refine then_normal ?_
      refine WC.block ?_
      refine WC.loopL (σ := Nat)
        (fun (q_ : Nat) => (fun (j : Nat) => [(1, .slice (fs_a) (fs).length (fs_c)), (36, .slice (r_a2) (r.files).length (r_c2)), (37, .int .i64 ((((r.files).length : Nat) : Int))), (38, .int .i64 (((j : Nat) : Int)))]) (q_))
        (fun (q_ : Nat) (w_ : World) => (fun (j : Nat) => ∃ h22 : Hp, h5.le h22 ∧ St Γ h22 (row (w.heap.size) [.string (B (r.name)), .slice (r_a1) (r.seens).length (r_c1), .slice (r_a2) (r.files).length (r_c2)] 35 :: L) w_ ∧ (j ≤ r.files.length) ∧ ((r.files.drop j).all (fun f => (fgetS fs f.name).2 && decide ((fgetS fs f.name).1 = f.text)) = r.files.all (fun f => (fgetS fs f.name).2 && decide ((fgetS fs f.name).1 = f.text)))) (q_))
        (fun (q_ : Nat) => (fun (j : Nat) => r.files.length - j) (q_)) (0) ?_ ?_ ?_
      · exact ⟨rfl, rfl, rfl, (by first | rfl | (apply congrArg (Value.int .i64); omega) | simp), trivial⟩
      · exact ⟨h5, Hp.le_refl _, hS3, (by first | assumption | omega | simp), (by rfl)⟩
      · rintro j r24 w21 ⟨h22, hl23, hS20, g1, g2⟩
        try dsimp only at g1 g2
        refine WC.seq ?_
        refine WC.region ?_
        refine WL.val1 (R_lss (a := ((j : Nat) : Int)) (b := (((r.files).length : Nat) : Int)) rfl rfl) ?_
        refine WL.nil ?_
        refine then_normal ?_
        refine WC.seq ?_
        refine WC.condP (((j : Nat) : Int) < (((r.files).length : Nat) : Int)) rfl (fun c2 => ?_) (fun c2 => ?_)
        · skip
          refine WC.skip ?_
          refine then_normal ?_
          refine WC.seq ?_
          refine WC.block ?_
          refine WC.seq ?_
          refine WC.region ?_
          obtain ⟨z_r_files_j, hz_r_files_j⟩ : ∃ z, (r.files)[j]? = some z := ⟨_, List.getElem?_eq_getElem (by omega)⟩
          obtain ⟨b25, o26, cs30, ha27, hr28, hat29⟩ := (sl_r1.mono (hl6.trans hl23)).2 j z_r_files_j hz_r_files_j
          subst hr28
          refine WL.val1 (R_indexAddrE (i := ((j : Nat) : Int)) (m := j) ha27 rfl rfl Tryd.underlying23 (Tryd.sizeOf53 _) (by first | rfl | (omega)) (by omega)) ?_
          refine WL.val1 (R_loadCA (cs := [.string (B (z_r_files_j.name)), .string (B (z_r_files_j.text))]) hS20 rfl hat29 Tryd.isAgg53 Tryd.sizeOf53 rfl) ?_
          refine S_alloc hS20 Tryd.zeroValue53 ?_
          intro w32 hS31
          refine S_store (i := 0) (b := w21.heap.size) (l := [.string (B (([] : Str))), .string (B (([] : Str)))]) (l' := [.string (B (z_r_files_j.name)), .string (B (z_r_files_j.text))]) (vs := [.string (B (z_r_files_j.name)), .string (B (z_r_files_j.text))]) (v := .agg #[.string (B (z_r_files_j.name)), .string (B (z_r_files_j.text))]) hS31 rfl rfl rfl Tryd.sizeOf53 rfl rfl rfl (Nat.le_of_ble_eq_true rfl) rfl rfl ?_
          intro w34 hS33
          refine WL.nil ?_
          refine then_normal ?_
          refine WC.seq ?_
          refine WC.region ?_
          refine WL.val1 (R_move (v := .slice (fs_a) (fs).length (fs_c)) rfl) ?_
          refine WL.val1 (R_fieldAddr (b := w21.heap.size) (off := 0) (m := 0) rfl (fun _ => by kernel_rfl)) ?_
          refine WL.val1 (R_load (v := .string (B (z_r_files_j.name))) rfl (hS33.has (i := 0) rfl) (Tryd.isAgg9 _) rfl) ?_
          refine S_callP (vs := [.slice (fs_a) (fs).length (fs_c), .string (B (z_r_files_j.name))]) hS33 Tryd.call21 rfl (files_Get (fs) (fs_a) (fs_c) (z_r_files_j.name) (by first | assumption | omega)) (sl_fs.mono (hl6.trans hl23)) ?_
          intro w36 hS35
          refine WL.val1 (R_move (v := .tuple #[.string (B ((fgetS fs z_r_files_j.name).1)), .bool ((fgetS fs z_r_files_j.name).2)]) rfl) ?_
          refine WL.val1 (R_extract (vs := ([.string (B ((fgetS fs z_r_files_j.name).1)), .bool ((fgetS fs z_r_files_j.name).2)] : List Value).toArray) (v := .string (B ((fgetS fs z_r_files_j.name).1))) rfl rfl) ?_
          refine WL.val1 (R_extract (vs := ([.string (B ((fgetS fs z_r_files_j.name).1)), .bool ((fgetS fs z_r_files_j.name).2)] : List Value).toArray) (v := .bool ((fgetS fs z_r_files_j.name).2)) rfl rfl) ?_
          refine WL.val1 (R_assign (v := .string (B ((fgetS fs z_r_files_j.name).1))) rfl) ?_
          refine WL.val1 (R_assign (v := .bool ((fgetS fs z_r_files_j.name).2)) rfl) ?_
          refine WL.nil ?_
          refine then_normal ?_
          refine WC.seq ?_
          refine WC.region ?_
          refine WL.val1 (R_move (v := .bool ((fgetS fs z_r_files_j.name).2)) rfl) ?_
          refine WL.val1 (R_not (b := (fgetS fs z_r_files_j.name).2) rfl) ?_
          refine WL.val1 (R_move (v := .bool ((!((fgetS fs z_r_files_j.name).2)))) rfl) ?_
          refine WL.gpure (gd := (!((!((fgetS fs z_r_files_j.name).2))))) (yl_f (d := 51) rfl rfl) (fun hg => R_move (v := .string (B ((fgetS fs z_r_files_j.name).1))) rfl) ?_
          refine WL.gpure (gd := (!((!((fgetS fs z_r_files_j.name).2))))) (yl_f (d := 51) rfl rfl) (fun hg => R_fieldAddr (b := w21.heap.size) (off := 0) (m := 1) rfl (fun _ => by kernel_rfl)) ?_
          refine WL.gpure (gd := (!((!((fgetS fs z_r_files_j.name).2))))) (yl_f (d := 51) rfl rfl) (fun hg => R_load (v := .string (B (z_r_files_j.text))) (gvT hg rfl) (hS35.has (i := 0) rfl) (Tryd.isAgg9 _) rfl) ?_
          refine WL.gpure (gd := (!((!((fgetS fs z_r_files_j.name).2))))) (yl_f (d := 51) rfl rfl) (fun hg => R_sneq (a := (fgetS fs z_r_files_j.name).1) (b := z_r_files_j.text) (gvT hg rfl) (gvT hg rfl)) ?_
          refine WL.val1 (R_or (cb := (!((fgetS fs z_r_files_j.name).2))) (yb := decide ((fgetS fs z_r_files_j.name).1 ≠ z_r_files_j.text)) rfl rfl rfl) ?_
          refine WL.nil ?_
          refine then_normal ?_
          refine WC.condI ((¬ (((fgetS fs z_r_files_j.name).2) = true) ∨ (fgetS fs z_r_files_j.name).1 ≠ z_r_files_j.text)) (b := ((!((fgetS fs z_r_files_j.name).2)) || decide ((fgetS fs z_r_files_j.name).1 ≠ z_r_files_j.text))) rfl (b_or (b_not Iff.rfl) b_dec) (fun c3 => ?_) (fun c3 => ?_)
          · skip
            refine WC.seq ?_
            refine WC.region ?_
            refine WL.val1 (R_assign (v := .bool (false)) rfl) ?_
            refine WL.nil ?_
            refine then_normal ?_
            refine WC.ret ?_
            refine block_ret ?_
            refine then_ret ?_
            refine then_ret ?_
            refine block_ret ?_
            refine then_ret ?_
            refine top_ret (.bool (false)) (gives1 rfl rfl) ?_
            exact ⟨(by rw [freshS, ← g2, all_step hz_r_files_j]; rcases c3 with c3 | c3; (rw [bool_no c3]; simp); (rw [decide_eq_false c3]; simp)), (hS35.pop.pop.weaken_h (hl6.trans hl23))⟩
          · skip
            refine WC.skip ?_
            refine block_normal ?_
            refine then_normal ?_
            refine WC.region ?_
            refine WL.val1 (R_add_i (a := ((j : Nat) : Int)) (b := 1) rfl rfl (by omega)) ?_
            refine WL.val1 (R_move (v := .int .i64 ((((j : Nat) : Int) + 1))) rfl) ?_
            refine WL.nil ?_
            refine then_normal ?_
            exact ⟨(j + 1), ⟨rfl, rfl, rfl, (by first | rfl | (apply congrArg (Value.int .i64); omega) | simp), trivial⟩, ⟨h22, hl23, hS35.pop, (by (try dsimp only); first | assumption | omega | simp), (by (try dsimp only); rw [← g2, all_step hz_r_files_j]; have c4 := not_or.1 c3; rw [Decidable.not_not.1 c4.1, decide_eq_true (Decidable.not_not.1 c4.2)]; rfl)⟩, (by first | (simp only []; omega) | (simp; omega))⟩
        · skip
          refine WC.exit ?_
          refine then_exit ?_
          refine then_exit ?_
          refine block_exit ?_
          refine then_normal ?_
          refine WC.seq ?_
          refine WC.region ?_
          refine WL.val1 (R_assign (v := .bool (true)) rfl) ?_
          refine WL.nil ?_
          refine then_normal ?_
          refine WC.ret ?_
          refine top_ret (.bool (true)) (gives1 rfl rfl) ?_
          exact ⟨(by rw [freshS, f3, ← g2, all_end (by omega)]; rfl), (hS20.pop.weaken_h (hl6.trans hl23))⟩
set_option maxHeartbeats 400000 in
theorem rec_Look (fs : List File) (fs_a : Option Addr) (fs_c : Nat) (ns : List Str) (ns_a : Option Addr) (ns_c : Nat) (hl : fs.length ≤ 1000000) (hn : ns.length ≤ 1000000) : FnC GG Tryd.prog 8 (fun h => Sl RFile h fs fs_a fs_c ∧ Sl Rstr h ns ns_a ns_c) [.slice (fs_a) (fs).length (fs_c), .slice (ns_a) (ns).length (ns_c)] (fun h v => ∃ (a : Option Addr) (c : Nat), v = .slice (a) ((rlookS fs ns)).length (c) ∧ (Sl RSeen h (rlookS fs ns) a c)) := by
  intro Γ h L w hpre hS
  obtain ⟨sl_fs, sl_ns⟩ := hpre
  refine Ret.body Tryd.func8 rfl Tryd.ntmps8 (Nat.le_of_ble_eq_true rfl) ?_
  refine WC.seq ?_
  refine WC.region ?_
  refine WL.val1 (R_assign (v := .slice none 0 0) rfl) ?_
  refine WL.nil ?_
  refine then_normal ?_
  refine WC.seq ?_
  refine WC.region ?_
  refine WL.val1 (R_assign (v := .slice none 0 0) rfl) ?_
  refine WL.nil ?_
  refine then_normal ?_
  refine WC.seq ?_
  refine WC.seq ?_
  refine WC.region ?_
  refine WL.val1 (R_move (v := .slice (ns_a) (ns).length (ns_c)) rfl) ?_
  refine WL.val1 (R_len_slice (n := (ns).length) rfl Tryd.underlying24) ?_
  refine WL.val1 (R_move (v := .int .i64 (0)) rfl) ?_
  refine WL.nil ?_
  refine then_normal ?_
  refine WC.block ?_
  have hS1 := hS.growNil 51 RSeen h
  refine WC.loopL (σ := Nat × (List Seen) × (Option Addr) × Nat)
    (fun (q_ : Nat × (List Seen) × (Option Addr) × Nat) => (fun (i : Nat) (acc : List Seen) (acc_a : Option Addr) (acc_c : Nat) => [(0, .slice (fs_a) (fs).length (fs_c)), (1, .slice (ns_a) (ns).length (ns_c)), (5, .slice (acc_a) (acc).length (acc_c)), (10, .slice (ns_a) (ns).length (ns_c)), (11, .int .i64 ((((ns).length : Nat) : Int))), (12, .int .i64 (((i : Nat) : Int)))]) (q_.1) (q_.2.1) (q_.2.2.1) (q_.2.2.2))
    (fun (q_ : Nat × (List Seen) × (Option Addr) × Nat) (w_ : World) => (fun (i : Nat) (acc : List Seen) (acc_a : Option Addr) (acc_c : Nat) => ∃ h4 : Hp, h.le h4 ∧ St Γ h4 (grow 51 RSeen h4 (acc) (acc_a) (acc_c) :: L) w_ ∧ (i ≤ ns.length) ∧ (acc ++ rlookF fs (ns.take i) (ns.drop i) = rlookS fs ns) ∧ (acc.length ≤ i)) (q_.1) (q_.2.1) (q_.2.2.1) (q_.2.2.2))
    (fun (q_ : Nat × (List Seen) × (Option Addr) × Nat) => (fun (i : Nat) (acc : List Seen) (acc_a : Option Addr) (acc_c : Nat) => ns.length - i) (q_.1) (q_.2.1) (q_.2.2.1) (q_.2.2.2)) (0, ([] : List Seen), none, 0) ?_ ?_ ?_
  · exact ⟨rfl, rfl, (by first | rfl | (apply congrArg (Value.int .i64); omega) | simp), rfl, rfl, (by first | rfl | (apply congrArg (Value.int .i64); omega) | simp), trivial⟩
  · exact ⟨h, Hp.le_refl _, hS1, (by first | assumption | omega | simp), (by rfl), (by first | assumption | omega | simp)⟩
  · rintro ⟨i, acc, acc_a, acc_c⟩ r6 w3 ⟨h4, hl5, hS2, f1, f2, f3⟩
    try dsimp only at f1 f2 f3
    refine WC.seq ?_
    refine WC.region ?_
    refine WL.val1 (R_lss (a := ((i : Nat) : Int)) (b := (((ns).length : Nat) : Int)) rfl rfl) ?_
    refine WL.nil ?_
    refine then_normal ?_
    refine WC.seq ?_
    refine WC.condP (((i : Nat) : Int) < (((ns).length : Nat) : Int)) rfl (fun c0 => ?_) (fun c0 => ?_)
    · skip
      refine WC.skip ?_
      refine then_normal ?_
      refine WC.seq ?_
      refine WC.block ?_
      refine WC.seq ?_
      refine WC.region ?_
      refine WL.val1 (R_move (v := .int .i64 (((i : Nat) : Int))) rfl) ?_
      obtain ⟨z_ns_i, hz_ns_i⟩ : ∃ z, (ns)[i]? = some z := ⟨_, List.getElem?_eq_getElem (by omega)⟩
      obtain ⟨b7, o8, cs12, ha9, hr10, hat11⟩ := (sl_ns.mono hl5).2 i z_ns_i hz_ns_i
      subst hr10
      refine WL.val1 (R_indexAddrE (i := ((i : Nat) : Int)) (m := i) ha9 rfl rfl Tryd.underlying24 (Tryd.sizeOf9 _) (by first | rfl | (omega)) (by omega)) ?_
      refine WL.val1 (R_loadC (v := .string (B (z_ns_i))) hS2 rfl hat11 Tryd.isAgg9 rfl) ?_
      refine WL.val1 (R_assign (v := .int .i64 (((i : Nat) : Int))) rfl) ?_
      refine WL.val1 (R_assign (v := .string (B (z_ns_i))) rfl) ?_
      refine WL.nil ?_
      refine then_normal ?_
      refine WC.seq ?_
      refine WC.region ?_
      refine WL.val1 (R_move (v := .slice (ns_a) (ns).length (ns_c)) rfl) ?_
      refine WL.val1 (R_move (v := .int .i64 (((i : Nat) : Int))) rfl) ?_
      obtain ⟨a13, ha14⟩ : ∃ a_ : Option Addr, a_ = (if ns_c = 0 then ns_a else (ns_a : Option Addr).map (·.add (0 * 1))) := ⟨_, rfl⟩
      have hs15 := (by rw [ha14]; exact ((sl_ns.mono hl5).upto i (by omega)) : Sl Rstr h4 (ns.take i) a13 (ns_c))
      refine WL.val1 (R_cast (v' := .slice (a13) ((ns.take i)).length (ns_c)) (R_slh (m := i) rfl rfl Tryd.underlying24 (Tryd.sizeOf9 _) (by first | rfl | (omega)) (by have hc_ := (sl_ns.mono hl5).1; omega)) (by rw [ha14]; exact congrArg (fun q_ => Value.slice _ q_ _) (by (try simp only [List.length_take, List.length_append, List.length_cons, List.length_nil]); omega))) ?_
      refine WL.val1 (R_move (v := .string (B (z_ns_i))) rfl) ?_
      refine S_callP (vs := [.slice (a13) ((ns.take i)).length (ns_c), .string (B (z_ns_i))]) hS2 Tryd.call20 rfl (lib_Contains ((ns.take i)) (a13) (ns_c) (z_ns_i) (by first | assumption | omega | (simp only [List.length_take]; omega))) hs15 ?_
      intro w17 hS16
      refine WL.val1 (R_not (b := decide (z_ns_i ∈ ((ns.take i)))) rfl) ?_
      refine WL.nil ?_
      refine then_normal ?_
      refine WC.condI (¬ (z_ns_i ∈ ((ns.take i)))) (b := (!(decide (z_ns_i ∈ ((ns.take i)))))) rfl (b_not b_dec) (fun c1 => ?_) (fun c1 => ?_)
      · skip
        refine WC.seq ?_
        refine WC.region ?_
        refine WL.val1 (R_move (v := .slice (fs_a) (fs).length (fs_c)) rfl) ?_
        refine WL.val1 (R_move (v := .string (B (z_ns_i))) rfl) ?_
        refine S_callP (vs := [.slice (fs_a) (fs).length (fs_c), .string (B (z_ns_i))]) hS16 Tryd.call21 rfl (files_Get (fs) (fs_a) (fs_c) (z_ns_i) (by first | assumption | omega | (simp only [List.length_take]; omega))) (sl_fs.mono hl5) ?_
        intro w19 hS18
        refine WL.val1 (R_move (v := .tuple #[.string (B ((fgetS fs z_ns_i).1)), .bool ((fgetS fs z_ns_i).2)]) rfl) ?_
        refine WL.val1 (R_extract (vs := ([.string (B ((fgetS fs z_ns_i).1)), .bool ((fgetS fs z_ns_i).2)] : List Value).toArray) (v := .string (B ((fgetS fs z_ns_i).1))) rfl rfl) ?_
        refine WL.val1 (R_extract (vs := ([.string (B ((fgetS fs z_ns_i).1)), .bool ((fgetS fs z_ns_i).2)] : List Value).toArray) (v := .bool ((fgetS fs z_ns_i).2)) rfl rfl) ?_
        refine WL.val1 (R_assign (v := .string (B ((fgetS fs z_ns_i).1))) rfl) ?_
        refine WL.val1 (R_assign (v := .bool ((fgetS fs z_ns_i).2)) rfl) ?_
        refine WL.nil ?_
        refine then_normal ?_
        refine WC.region ?_
        refine WL.val1 (R_move (v := .slice (acc_a) (acc).length (acc_c)) rfl) ?_
        refine WL.val1 (R_move (v := .string (B (z_ns_i))) rfl) ?_
        refine WL.val1 (R_move (v := .bool ((fgetS fs z_ns_i).2)) rfl) ?_
        refine WL.val1 (R_move (v := .string (B ((fgetS fs z_ns_i).1))) rfl) ?_
        refine WL.val1 (R_build (vs := [(0, .string (B (z_ns_i))), (1, .bool ((fgetS fs z_ns_i).2)), (2, .string (B ((fgetS fs z_ns_i).1)))]) (v := .agg #[.string (B (z_ns_i)), .bool ((fgetS fs z_ns_i).2), .string (B ((fgetS fs z_ns_i).1))]) rfl (fun _ => by kernel_rfl)) ?_
        refine S_buildSliceC (R := RSeen) (m := 1) (vs := [(0, .agg #[.string (B (z_ns_i)), .bool ((fgetS fs z_ns_i).2), .string (B ((fgetS fs z_ns_i).1))])]) (cells := [.string (B (z_ns_i)), .bool ((fgetS fs z_ns_i).2), .string (B ((fgetS fs z_ns_i).1))]) (xs := [{ name := z_ns_i, there := (fgetS fs z_ns_i).2, text := (fgetS fs z_ns_i).1 : Seen }]) hS18 Tryd.underlying30 Tryd.sizeOf51 Tryd.zeroValue51 (by decide) (by decide) rfl (by kernel_rfl) (by exact (⟨[.string (B (z_ns_i)), .bool ((fgetS fs z_ns_i).2), .string (B ((fgetS fs z_ns_i).1))], _, rfl, rfl, rfl⟩ : Flat RSeen _ [{ name := z_ns_i, there := (fgetS fs z_ns_i).2, text := (fgetS fs z_ns_i).1 : Seen }] _)) rfl ?_
        intro h22 b24 w21 hl23 hs25 hS20
        refine S_append (info := Tryd.t51) (R := RSeen) (xs := acc) (ys := [{ name := z_ns_i, there := (fgetS fs z_ns_i).2, text := (fgetS fs z_ns_i).1 : Seen }]) (a := acc_a) (c := acc_c) 0 Tryd.underlying30 (by kernel_rfl) rfl rfl rfl (by decide) 40 rfl hS20 rfl hl23 hs25 rfl rfl (by (try simp only [List.length_append, List.length_cons, List.length_nil]); omega) (by (try simp only [List.length_append, List.length_cons, List.length_nil]); omega) ?_
        intro a26 c27 w28 hS29
        refine WL.val1 (R_assign (v := .slice (a26) ((acc ++ [{ name := z_ns_i, there := (fgetS fs z_ns_i).2, text := (fgetS fs z_ns_i).1 : Seen }])).length (c27)) rfl) ?_
        refine WL.nil ?_
        refine block_normal ?_
        refine then_normal ?_
        refine WC.region ?_
        refine WL.val1 (R_add_i (a := ((i : Nat) : Int)) (b := 1) rfl rfl (by omega)) ?_
        refine WL.val1 (R_move (v := .int .i64 ((((i : Nat) : Int) + 1))) rfl) ?_
        refine WL.nil ?_
        refine then_normal ?_
        exact ⟨(i + 1, (acc ++ [{ name := z_ns_i, there := (fgetS fs z_ns_i).2, text := (fgetS fs z_ns_i).1 : Seen }]), a26, c27), ⟨rfl, rfl, (by first | rfl | (apply congrArg (Value.int .i64); omega) | simp), rfl, rfl, (by first | rfl | (apply congrArg (Value.int .i64); omega) | simp), trivial⟩, ⟨h22, (hl5.trans hl23), hS29, (by (try dsimp only); first | assumption | omega | simp), (by (try dsimp only); first | (rw [← f2, rlook_out hz_ns_i c1]; (try simp only [List.append_assoc, List.cons_append, List.nil_append]); rfl) | (rw [← f2, rlook_in hz_ns_i (Decidable.not_not.1 c1)])), (by (try dsimp only); first | omega | (simp; omega))⟩, (by first | (simp only []; omega) | (simp; omega))⟩
      · skip
        refine WC.skip ?_
        refine block_normal ?_
        refine then_normal ?_
        refine WC.region ?_
        refine WL.val1 (R_add_i (a := ((i : Nat) : Int)) (b := 1) rfl rfl (by omega)) ?_
        refine WL.val1 (R_move (v := .int .i64 ((((i : Nat) : Int) + 1))) rfl) ?_
        refine WL.nil ?_
        refine then_normal ?_
        exact ⟨(i + 1, acc, acc_a, acc_c), ⟨rfl, rfl, (by first | rfl | (apply congrArg (Value.int .i64); omega) | simp), rfl, rfl, (by first | rfl | (apply congrArg (Value.int .i64); omega) | simp), trivial⟩, ⟨h4, hl5, hS16, (by (try dsimp only); first | assumption | omega | simp), (by (try dsimp only); first | (rw [← f2, rlook_out hz_ns_i c1]; (try simp only [List.append_assoc, List.cons_append, List.nil_append]); rfl) | (rw [← f2, rlook_in hz_ns_i (Decidable.not_not.1 c1)])), (by (try dsimp only); first | omega | (simp; omega))⟩, (by first | (simp only []; omega) | (simp; omega))⟩
    · skip
      refine WC.exit ?_
      refine then_exit ?_
      refine then_exit ?_
      refine block_exit ?_
      refine then_normal ?_
      refine WC.seq ?_
      refine WC.region ?_
      refine WL.val1 (R_move (v := .slice (acc_a) (acc).length (acc_c)) rfl) ?_
      refine WL.val1 (R_assign (v := .slice (acc_a) (acc).length (acc_c)) rfl) ?_
      refine WL.nil ?_
      refine then_normal ?_
      refine WC.ret ?_
      refine top_ret (.slice (acc_a) (acc).length (acc_c)) (gives1 rfl rfl) ?_
      obtain ⟨h30, hl31, hs32, hS33⟩ := hS2.growCommit (i := 0) rfl (Hp.le_refl _)
      have e_ : rlookS fs ns = acc := by rw [← f2, drop_nil (by omega)]; simp [rlookF]
      exact ⟨h30, (hl5.trans hl31), ⟨acc_a, acc_c, (by rw [e_]), (by first | exact hs32 | (rw [e_]; exact hs32))⟩, hS33.pop⟩
end Go.Stet
