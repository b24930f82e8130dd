/- A part of the proof engine: rules for steps of the machine over frames and memory. Each under the conditions that its own statement names. -/
import Derived.Test.YtejombkbijackaaDoorSeatD2
import Derived.Test.YtejombkbijackaaDoorBldD
import Derived.Test.YtejombkbijackaaDoorEng15
import Derived.Test.YtejombkbijackaaDoorSpec12
import Derived.Test.YtejombkbijackaaDoorD11
set_option linter.all false
set_option linter.unusedSimpArgs false
set_option linter.unusedVariables false
namespace Go.Stet
open Go Go.Eng Go.Proofs
set_option maxHeartbeats 400000 in
theorem rec_all (t_b : Nat) (bad : Bool) (rv : Value) (s : Str) (n : Int) (hs : s.length ≤ 1000000000) (hn : 1 ≤ n ∧ n ≤ 3) : MutL GG Tryd.prog 36 (fun _ => True) [.pointer (some ⟨t_b, 0, none⟩), .string (B (s)), .int .i64 (n)] (fun h => [row (t_b) [.bool (bad), rv] 81]) (fun h A v => ∃ (a2 : Option Addr) (c2 : Nat), v = .slice (a2) ((rallS s n)).length (c2) ∧ A = [row (t_b) [.bool ((bad || rallB s n)), rv] 81] ∧ (Sl Rstr h (rallS s n) a2 c2)) := by
  intro Γ h L w hpre hS
  have hb := allS_bd s
  refine Ret.body Tryd.func36 rfl Tryd.ntmps36 (Nat.le_of_ble_eq_true rfl) ?_
  have hS : St Γ h (row (t_b) [.bool (bad), rv] 81 :: L) w := hS
  refine WC.seq ?_
  refine WC.region ?_
  refine WL.val1 (R_assign (v := .slice none 0 0) rfl) ?_
  refine WL.nil ?_
  refine then_normal ?_
  refine WC.seq ?_
  refine WC.region ?_
  refine WL.val1 (R_move (v := .string (B (s))) rfl) ?_
  refine S_callF (vs := [.string (B (s))]) hS Tryd.call44 rfl (wire_All (s) (by first | assumption | omega)) trivial ?_
  intro h3 v5 w2 hl4 hp6 hS1
  obtain ⟨a7, c8, rfl, hf9⟩ := hp6
  refine WL.val1 (R_move (v := .tuple #[.slice (a7) ((allS s).1).length (c8), .int .i64 ((allS s).2)]) rfl) ?_
  refine WL.val1 (R_extract (vs := ([.slice (a7) ((allS s).1).length (c8), .int .i64 ((allS s).2)] : List Value).toArray) (v := .slice (a7) ((allS s).1).length (c8)) rfl rfl) ?_
  refine WL.val1 (R_extract (vs := ([.slice (a7) ((allS s).1).length (c8), .int .i64 ((allS s).2)] : List Value).toArray) (v := .int .i64 ((allS s).2)) rfl rfl) ?_
  refine WL.val1 (R_assign (v := .slice (a7) ((allS s).1).length (c8)) rfl) ?_
  refine WL.val1 (R_assign (v := .int .i64 ((allS s).2)) rfl) ?_
  refine WL.nil ?_
  refine then_normal ?_
  refine WC.seq ?_
  refine WC.seq ?_
  refine WC.region ?_
  refine WL.val1 (R_move (v := .int .i64 ((allS s).2)) rfl) ?_
  refine WL.val1 (R_neq (a := (allS s).2) (b := 0) rfl rfl) ?_
  refine WL.val1 (R_move (v := .bool (decide ((allS s).2 ≠ 0))) rfl) ?_
  refine WL.gpure (gd := (!(decide ((allS s).2 ≠ 0)))) (yl_f (d := 16) rfl rfl) (fun hg => R_move (v := .slice (a7) ((allS s).1).length (c8)) rfl) ?_
  refine WL.gpure (gd := (!(decide ((allS s).2 ≠ 0)))) (yl_f (d := 16) rfl rfl) (fun hg => R_len_slice (n := ((allS s).1).length) (gvT hg rfl) Tryd.underlying24) ?_
  refine WL.gpure (gd := (!(decide ((allS s).2 ≠ 0)))) (yl_f (d := 16) rfl rfl) (fun hg => R_move (v := .int .i64 (n)) rfl) ?_
  refine WL.gpure (gd := (!(decide ((allS s).2 ≠ 0)))) (yl_f (d := 16) rfl rfl) (fun hg => R_rem_i (a := ((((allS s).1).length : Nat) : Int)) (b := n) (gvT hg rfl) (gvT hg rfl) (by have hg_ := ((b_not b_dec)).1 hg; omega) (by have hg_ := ((b_not b_dec)).1 hg; omega)) ?_
  refine WL.gpure (gd := (!(decide ((allS s).2 ≠ 0)))) (yl_f (d := 16) rfl rfl) (fun hg => R_neq (a := (((((allS s).1).length : Nat) : Int) % n)) (b := 0) (gvT hg rfl) rfl) ?_
  refine WL.val1 (R_or (cb := decide ((allS s).2 ≠ 0)) (yb := decide ((((((allS s).1).length : Nat) : Int) % n) ≠ 0)) rfl rfl rfl) ?_
  refine WL.nil ?_
  refine then_normal ?_
  refine WC.condI (((allS s).2 ≠ 0 ∨ (((((allS s).1).length : Nat) : Int) % n) ≠ 0)) (b := (decide ((allS s).2 ≠ 0) || decide ((((((allS s).1).length : Nat) : Int) % n) ≠ 0))) rfl (b_or b_dec b_dec) (fun c0 => ?_) (fun c0 => ?_)
  · skip
    refine WC.seq ?_
    refine WC.region ?_
    refine WL.val1 (R_move (v := .pointer (some ⟨t_b, 0, none⟩)) rfl) ?_
    refine WL.val1 (R_nilCheck rfl) ?_
    refine WL.val1 (R_fieldAddr (b := t_b) (off := 0) (m := 0) rfl (fun _ => by kernel_rfl)) ?_
    refine S_store (i := 0) (b := t_b) (l := [.bool (bad), rv]) (l' := [.bool (true), rv]) (vs := [.bool (true)]) (v := .bool (true)) hS1 rfl rfl rfl Tryd.sizeOf4 rfl rfl rfl (Nat.le_of_ble_eq_true rfl) rfl rfl ?_
    intro w11 hS10
    refine WL.nil ?_
    refine then_normal ?_
    refine WC.seq ?_
    refine WC.region ?_
    refine WL.val1 (R_assign (v := .slice none 0 0) rfl) ?_
    refine WL.nil ?_
    refine then_normal ?_
    refine WC.ret ?_
    refine then_ret ?_
    refine top_ret (.slice none 0 0) (gives1 rfl rfl) ?_
    have e_ := rallS_no c0
    have e2_ := rallB_no c0
    exact ⟨h3, [row (t_b) [.bool (true), rv] 81], hl4, ⟨none, 0, (by rw [e_]; rfl), (by rw [e2_, Bool.or_true]), (by first | exact Sl.nil _ _ _ _ | (rw [e_]; exact Sl.nil _ _ _ _))⟩, hS10⟩
  · skip
    refine WC.skip ?_
    refine then_normal ?_
    refine WC.seq ?_
    refine WC.region ?_
    refine WL.val1 (R_move (v := .slice (a7) ((allS s).1).length (c8)) rfl) ?_
    refine WL.val1 (R_assign (v := .slice (a7) ((allS s).1).length (c8)) rfl) ?_
    refine WL.nil ?_
    refine then_normal ?_
    refine WC.ret ?_
    refine top_ret (.slice (a7) ((allS s).1).length (c8)) (gives1 rfl rfl) ?_
    have e_ := rallS_yes c0
    have e2_ := rallB_yes c0
    exact ⟨h3, [row (t_b) [.bool (bad), rv] 81], hl4, ⟨a7, c8, (by rw [e_]), (by rw [e2_, Bool.or_false]), (by first | exact hf9 | (rw [e_]; exact hf9))⟩, hS1⟩
set_option maxHeartbeats 400000 in
theorem rec_take (t_b : Nat) (bad : Bool) (acc : List Rec) (acc_a : Option Addr) (acc_c : Nat) (s : Str) (hs : s.length ≤ 1000) (hl : acc.length ≤ 1000000) : MutL GG Tryd.prog 37 (fun _ => True) [.pointer (some ⟨t_b, 0, none⟩), .string (B (s))] (fun h => [row (t_b) [.bool (bad), .slice (acc_a) (acc).length (acc_c)] 81, grow 35 RRec h (acc) (acc_a) (acc_c)]) (fun h A v => ∃ (a2 : Option Addr) (c2 : Nat), v = .tuple #[] ∧ A = [row (t_b) [.bool ((takeS bad acc s).1), .slice (a2) ((takeS bad acc s).2).length (c2)] 81, grow 35 RRec h ((takeS bad acc s).2) (a2) (c2)]) := by
  intro Γ h L w hpre hS
  have hb := rallS_bd s 3
  refine Ret.body Tryd.func37 rfl Tryd.ntmps37 (Nat.le_of_ble_eq_true rfl) ?_
  have hS : St Γ h (row (t_b) [.bool (bad), .slice (acc_a) (acc).length (acc_c)] 81 :: grow 35 RRec h (acc) (acc_a) (acc_c) :: L) w := hS
  refine WC.seq ?_
  refine WC.region ?_
  refine WL.val1 (R_move (v := .pointer (some ⟨t_b, 0, none⟩)) rfl) ?_
  refine WL.val1 (R_nilCheck rfl) ?_
  refine WL.val1 (R_fieldAddr (b := t_b) (off := 0) (m := 0) rfl (fun _ => by kernel_rfl)) ?_
  refine WL.val1 (R_move (v := .string (B (s))) rfl) ?_
  have hS3 : St Γ h (row (t_b) [.bool (bad), .slice (acc_a) (acc).length (acc_c)] 81 :: emp :: grow 35 RRec h (acc) (acc_a) (acc_c) :: L) w := hS.front (i := 0) rfl
  refine S_callL (vs := [.pointer (some ⟨t_b, 0, none⟩), .string (B (s)), .int .i64 (3)]) (A := fun hh_ => [row (t_b) [.bool (bad), .slice (acc_a) (acc).length (acc_c)] 81]) (L := emp :: grow 35 RRec h (acc) (acc_a) (acc_c) :: L) hS3 Tryd.call36 rfl (rec_all (t_b) (bad) (.slice (acc_a) (acc).length (acc_c)) (s) (3) (by first | assumption | omega) (by first | assumption | omega)) trivial ?_
  intro h4 A6 v7 w2 hl5 hp8 hS1
  obtain ⟨a29, c210, rfl, rfl, hf11⟩ := hp8
  have hS1 : St Γ h4 (row (t_b) [.bool ((bad || rallB s 3)), .slice (acc_a) (acc).length (acc_c)] 81 :: emp :: grow 35 RRec h (acc) (acc_a) (acc_c) :: L) w2 := hS1
  have hS12 : St Γ h4 (row (t_b) [.bool ((bad || rallB s 3)), .slice (acc_a) (acc).length (acc_c)] 81 :: grow 35 RRec h (acc) (acc_a) (acc_c) :: L) w2 := St.back (L := row (t_b) [.bool ((bad || rallB s 3)), .slice (acc_a) (acc).length (acc_c)] 81 :: grow 35 RRec h (acc) (acc_a) (acc_c) :: L) (i := 0) hS1 rfl
  refine WL.val1 (R_assign (v := .slice (a29) ((rallS s 3)).length (c210)) rfl) ?_
  refine WL.nil ?_
  refine then_normal ?_
  refine WC.seq ?_
  refine WC.seq ?_
  refine WC.region ?_
  refine WL.val1 (R_move (v := .slice (a29) ((rallS s 3)).length (c210)) rfl) ?_
  refine WL.val1 (R_len_slice (n := ((rallS s 3)).length) rfl Tryd.underlying24) ?_
  refine WL.val1 (R_neq (a := ((((rallS s 3)).length : Nat) : Int)) (b := 3) rfl rfl) ?_
  refine WL.nil ?_
  refine then_normal ?_
  refine WC.condP (((((rallS s 3)).length : Nat) : Int) ≠ 3) rfl (fun c0 => ?_) (fun c0 => ?_)
  · skip
    refine WC.seq ?_
    refine WC.region ?_
    refine WL.val1 (R_move (v := .pointer (some ⟨t_b, 0, none⟩)) rfl) ?_
    refine WL.val1 (R_nilCheck rfl) ?_
    refine WL.val1 (R_fieldAddr (b := t_b) (off := 0) (m := 0) rfl (fun _ => by kernel_rfl)) ?_
    refine WL.val1 (R_fieldAddr (b := t_b) (off := 0) (m := 0) rfl (fun _ => by kernel_rfl)) ?_
    refine S_store (i := 0) (b := t_b) (l := [.bool ((bad || rallB s 3)), .slice (acc_a) (acc).length (acc_c)]) (l' := [.bool (true), .slice (acc_a) (acc).length (acc_c)]) (vs := [.bool (true)]) (v := .bool (true)) hS12 rfl rfl rfl Tryd.sizeOf4 rfl rfl rfl (Nat.le_of_ble_eq_true rfl) rfl rfl ?_
    intro w14 hS13
    refine WL.nil ?_
    refine then_normal ?_
    refine WC.ret ?_
    refine then_ret ?_
    refine top_ret (.tuple #[]) (gives0 rfl) ?_
    have hS15 := hS13.growMono (i := 1) rfl hl5
    have e_ : takeS bad acc s = (true, acc) := if_pos (by omega)
    exact ⟨h4, [row (t_b) [.bool (true), .slice (acc_a) (acc).length (acc_c)] 81, grow 35 RRec h4 (acc) (acc_a) (acc_c)], hl5, ⟨acc_a, acc_c, (by first | rfl | (rw [e_]; done) | (rw [e_]; rfl) | (simp; done)), (by first | rfl | (rw [e_]; done) | (rw [e_]; rfl))⟩, hS15⟩
  · skip
    refine WC.skip ?_
    refine then_normal ?_
    refine WC.seq ?_
    refine WC.region ?_
    refine WL.val1 (R_move (v := .slice (a29) ((rallS s 3)).length (c210)) rfl) ?_
    obtain ⟨z_rallS_s_3_0, hz_rallS_s_3_0⟩ : ∃ z, ((rallS s 3))[0]? = some z := ⟨_, List.getElem?_eq_getElem (by first | omega | (have := hb_rallS_s_3_1; omega))⟩
    obtain ⟨b16, o17, cs21, ha18, hr19, hat20⟩ := hf11.2 0 z_rallS_s_3_0 hz_rallS_s_3_0
    subst hr19
    have hb_rallS_s_3_0 := hb.1 z_rallS_s_3_0 (List.mem_of_getElem? hz_rallS_s_3_0)
    refine WL.val1 (R_indexAddrE (i := 0) (m := 0) ha18 rfl rfl Tryd.underlying24 (Tryd.sizeOf9 _) (by first | rfl | (first | omega | (have := hb_rallS_s_3_1; omega))) (by first | omega | (have := hb_rallS_s_3_1; omega))) ?_
    refine WL.val1 (R_loadC (v := .string (B (z_rallS_s_3_0))) hS12 rfl hat20 Tryd.isAgg9 rfl) ?_
    refine WL.val1 (R_build (vs := [(0, .string (B (z_rallS_s_3_0)))]) (v := .agg #[.string (B (z_rallS_s_3_0)), .slice none 0 0, .slice none 0 0]) rfl (fun _ => by kernel_rfl)) ?_
    refine S_alloc hS12 Tryd.zeroValue35 ?_
    intro w23 hS22
    refine S_store (i := 0) (b := w2.heap.size) (l := [.string (B (([] : Str))), .slice none 0 0, .slice none 0 0]) (l' := [.string (B (z_rallS_s_3_0)), .slice none 0 0, .slice none 0 0]) (vs := [.string (B (z_rallS_s_3_0)), .slice none 0 0, .slice none 0 0]) (v := .agg #[.string (B (z_rallS_s_3_0)), .slice none 0 0, .slice none 0 0]) hS22 rfl rfl rfl Tryd.sizeOf35 rfl rfl rfl (Nat.le_of_ble_eq_true rfl) rfl rfl ?_
    intro w25 hS24
    refine WL.nil ?_
    refine then_normal ?_
    refine WC.seq ?_
    obtain ⟨z_rallS_s_3_1, hz_rallS_s_3_1⟩ : ∃ z, ((rallS s 3))[1]? = some z := ⟨_, List.getElem?_eq_getElem (by first | omega | (have := hb_rallS_s_3_1; omega))⟩
    obtain ⟨b46, o47, cs51, ha48, hr49, hat50⟩ := hf11.2 1 z_rallS_s_3_1 hz_rallS_s_3_1
    subst hr49
    have hb_rallS_s_3_1 := hb.1 z_rallS_s_3_1 (List.mem_of_getElem? hz_rallS_s_3_1)
    refine WC.draw 6 [(0, .pointer (some ⟨t_b, 0, none⟩)), (4, .slice (a29) ((rallS s 3)).length (c210)), (5, .pointer (some ⟨w2.heap.size, 0, none⟩))] [fun _ v => v = .pointer (some ⟨t_b, 0, none⟩), fun _ v => v = .pointer (some ⟨t_b, 0, none⟩), fun _ v => v = .pointer (some ⟨t_b, 0, none⟩), fun _ v => v = .slice (a29) ((rallS s 3)).length (c210), fun _ v => v = .pointer (some ⟨b46, (o47 + 1 * Rstr.n), none⟩), fun _ v => v = .string (B (z_rallS_s_3_1))] hS24 (by kernel_rfl) (by kernel_rfl) (MonoFs.pure (MonoFs.pure (MonoFs.pure (MonoFs.pure (MonoFs.pure (MonoFs.pure MonoFs.nil)))))) ⟨rfl, rfl, rfl, trivial⟩ ⟨?_, ?_, ?_, ?_, ?_, ?_, trivial⟩ ?_
    · intro r_ w57 h58 hl59 hS56 hb_ hp_
      obtain ⟨b0_, b1_, b2_, _⟩ := hb_
      refine WL.val1 (R_move (v := .pointer (some ⟨t_b, 0, none⟩)) b0_) ?_
      refine WL.nil ?_
      exact ⟨rfl, _, _, rfl, (Hp.le_refl _), rfl, hS56⟩
    · intro r_ w61 h62 hl63 hS60 hb_ hp_
      obtain ⟨b0_, b1_, b2_, _⟩ := hb_
      obtain ⟨p0_, _⟩ := hp_
      have p0_ : r_ 28 = .pointer (some ⟨t_b, 0, none⟩) := p0_
      refine WL.val1 (R_nilCheck p0_) ?_
      refine WL.nil ?_
      exact ⟨rfl, _, _, rfl, (Hp.le_refl _), rfl, hS60⟩
    · intro r_ w65 h66 hl67 hS64 hb_ hp_
      obtain ⟨b0_, b1_, b2_, _⟩ := hb_
      obtain ⟨p0_, _⟩ := hp_
      have p0_ : r_ 29 = .pointer (some ⟨t_b, 0, none⟩) := p0_
      refine WL.val1 (R_fieldAddr (b := t_b) (off := 0) (m := 0) p0_ (fun _ => by kernel_rfl)) ?_
      refine WL.nil ?_
      exact ⟨rfl, _, _, rfl, (Hp.le_refl _), rfl, hS64⟩
    · intro r_ w69 h70 hl71 hS68 hb_ hp_
      obtain ⟨b0_, b1_, b2_, _⟩ := hb_
      refine WL.val1 (R_move (v := .slice (a29) ((rallS s 3)).length (c210)) b1_) ?_
      refine WL.nil ?_
      exact ⟨rfl, _, _, rfl, (Hp.le_refl _), rfl, hS68⟩
    · intro r_ w73 h74 hl75 hS72 hb_ hp_
      obtain ⟨b0_, b1_, b2_, _⟩ := hb_
      obtain ⟨p0_, _⟩ := hp_
      have p0_ : r_ 31 = .slice (a29) ((rallS s 3)).length (c210) := p0_
      refine WL.val1 (R_indexAddrE (i := 1) (m := 1) ha48 p0_ rfl Tryd.underlying24 (Tryd.sizeOf9 _) (by first | rfl | (first | omega | (have := hb_rallS_s_3_1; omega))) (by first | omega | (have := hb_rallS_s_3_1; omega))) ?_
      refine WL.nil ?_
      exact ⟨rfl, _, _, rfl, (Hp.le_refl _), rfl, hS72⟩
    · intro r_ w77 h78 hl79 hS76 hb_ hp_
      obtain ⟨b0_, b1_, b2_, _⟩ := hb_
      obtain ⟨p0_, _⟩ := hp_
      have p0_ : r_ 32 = .pointer (some ⟨b46, (o47 + 1 * Rstr.n), none⟩) := p0_
      refine WL.val1 (R_loadC (v := .string (B (z_rallS_s_3_1))) hS76 p0_ (hat50.mono hl79) Tryd.isAgg9 rfl) ?_
      refine WL.nil ?_
      exact ⟨rfl, _, _, rfl, (Hp.le_refl _), rfl, hS76⟩
    · intro r_ w81 h82 hl83 hS80 hb_ hf_
      obtain ⟨b0_, b1_, b2_, _⟩ := hb_
      obtain ⟨q0_, q1_, q2_, q3_, q4_, q5_, _⟩ := hf_
      refine WL.frame [(0, .pointer (some ⟨t_b, 0, none⟩)), (4, .slice (a29) ((rallS s 3)).length (c210)), (5, .pointer (some ⟨w2.heap.size, 0, none⟩)), (28, .pointer (some ⟨t_b, 0, none⟩)), (29, .pointer (some ⟨t_b, 0, none⟩)), (30, .pointer (some ⟨t_b, 0, none⟩)), (31, .slice (a29) ((rallS s 3)).length (c210)), (32, .pointer (some ⟨b46, (o47 + 1 * Rstr.n), none⟩)), (33, .string (B (z_rallS_s_3_1)))] ⟨b0_, b1_, b2_, q0_, q1_, q2_, q3_, q4_, q5_, trivial⟩ (fun r_ => ?_)
      have hS86 := hS80.growMono (i := 2) rfl (hl5.trans hl83)
      have hS87 : St Γ h82 (row (t_b) [.bool ((bad || rallB s 3)), .slice (acc_a) (acc).length (acc_c)] 81 :: row (w2.heap.size) [.string (B (z_rallS_s_3_0)), .slice none 0 0, .slice none 0 0] 35 :: emp :: grow 35 RRec h82 (acc) (acc_a) (acc_c) :: L) w81 := hS86.front (i := 1) rfl
      refine S_callL (vs := [.pointer (some ⟨t_b, 0, none⟩), .string (B (z_rallS_s_3_1)), .int .i64 (2)]) (A := fun hh_ => [row (t_b) [.bool ((bad || rallB s 3)), .slice (acc_a) (acc).length (acc_c)] 81]) (L := row (w2.heap.size) [.string (B (z_rallS_s_3_0)), .slice none 0 0, .slice none 0 0] 35 :: emp :: grow 35 RRec h82 (acc) (acc_a) (acc_c) :: L) hS87 Tryd.call36 rfl (rec_all (t_b) ((bad || rallB s 3)) (.slice (acc_a) (acc).length (acc_c)) (z_rallS_s_3_1) (2) (by first | assumption | omega) (by first | assumption | omega)) trivial ?_
      intro h88 A90 v91 w85 hl89 hp92 hS84
      obtain ⟨a293, c294, rfl, rfl, hf95⟩ := hp92
      have hS84 : St Γ h88 (row (t_b) [.bool ((((bad || rallB s 3)) || rallB z_rallS_s_3_1 2)), .slice (acc_a) (acc).length (acc_c)] 81 :: row (w2.heap.size) [.string (B (z_rallS_s_3_0)), .slice none 0 0, .slice none 0 0] 35 :: emp :: grow 35 RRec h82 (acc) (acc_a) (acc_c) :: L) w85 := hS84
      have hS96 : St Γ h88 (row (w2.heap.size) [.string (B (z_rallS_s_3_0)), .slice none 0 0, .slice none 0 0] 35 :: row (t_b) [.bool ((((bad || rallB s 3)) || rallB z_rallS_s_3_1 2)), .slice (acc_a) (acc).length (acc_c)] 81 :: grow 35 RRec h82 (acc) (acc_a) (acc_c) :: L) w85 := St.back (L := row (w2.heap.size) [.string (B (z_rallS_s_3_0)), .slice none 0 0, .slice none 0 0] 35 :: row (t_b) [.bool ((((bad || rallB s 3)) || rallB z_rallS_s_3_1 2)), .slice (acc_a) (acc).length (acc_c)] 81 :: grow 35 RRec h82 (acc) (acc_a) (acc_c) :: L) (i := 1) hS84 rfl
      refine WL.val1 (R_assign (v := .slice (a293) ((rallS z_rallS_s_3_1 2)).length (c294)) rfl) ?_
      refine WL.nil ?_
      refine then_normal ?_
      refine WC.seq ?_
      refine WC.seq ?_
      have hb1 := rallS_bd z_rallS_s_3_1 2
      have hm := rallS_mod (s := z_rallS_s_3_1)
      refine WC.region ?_
      refine WL.val1 (R_assign (v := .int .i64 (0)) rfl) ?_
      refine WL.nil ?_
      refine then_normal ?_
      refine WC.block ?_
      have hS97 := hS96.growNil 51 RSeen h88
      have hS98 := hS97.growMono (i := 3) rfl hl89
      refine WC.loopL (σ := Nat × (List Seen) × (Option Addr) × Nat)
        (fun (q_ : Nat × (List Seen) × (Option Addr) × Nat) => (fun (i : Nat) (sn : List Seen) (sn_a : Option Addr) (sn_c : Nat) => [(0, .pointer (some ⟨t_b, 0, none⟩)), (4, .slice (a29) ((rallS s 3)).length (c210)), (5, .pointer (some ⟨w2.heap.size, 0, none⟩)), (6, .slice (a293) ((rallS z_rallS_s_3_1 2)).length (c294)), (7, .int .i64 (((i : Nat) : Int)))]) (q_.1) (q_.2.1) (q_.2.2.1) (q_.2.2.2))
        (fun (q_ : Nat × (List Seen) × (Option Addr) × Nat) (w_ : World) => (fun (i : Nat) (sn : List Seen) (sn_a : Option Addr) (sn_c : Nat) => ∃ h101 : Hp, h88.le h101 ∧ St Γ h101 (grow 51 RSeen h101 (sn) (sn_a) (sn_c) :: row (w2.heap.size) [.string (B (z_rallS_s_3_0)), .slice (sn_a) (sn).length (sn_c), .slice none 0 0] 35 :: row (t_b) [.bool ((((bad || rallB s 3)) || rallB z_rallS_s_3_1 2)), .slice (acc_a) (acc).length (acc_c)] 81 :: grow 35 RRec h101 (acc) (acc_a) (acc_c) :: L) w_ ∧ (i ≤ (rallS z_rallS_s_3_1 2).length ∧ i % 2 = 0) ∧ (sn ++ takeSeens ((rallS z_rallS_s_3_1 2).drop i) = takeSeens (rallS z_rallS_s_3_1 2)) ∧ (sn.length ≤ i)) (q_.1) (q_.2.1) (q_.2.2.1) (q_.2.2.2))
        (fun (q_ : Nat × (List Seen) × (Option Addr) × Nat) => (fun (i : Nat) (sn : List Seen) (sn_a : Option Addr) (sn_c : Nat) => (rallS z_rallS_s_3_1 2).length + 1 - i) (q_.1) (q_.2.1) (q_.2.2.1) (q_.2.2.2)) (0, ([] : List Seen), none, 0) ?_ ?_ ?_
      · exact ⟨rfl, rfl, rfl, rfl, (by first | rfl | (apply congrArg (Value.int .i64); omega) | simp), trivial⟩
      · exact ⟨h88, Hp.le_refl _, hS98, (by first | assumption | omega | simp), (by rfl), (by first | assumption | omega | simp)⟩
      · rintro ⟨i, sn, sn_a, sn_c⟩ r103 w100 ⟨h101, hl102, hS99, f1, f2, f3⟩
        try dsimp only at f1 f2 f3
        refine WC.seq ?_
        refine WC.seq ?_
        refine WC.region ?_
        refine WL.val1 (R_move (v := .int .i64 (((i : Nat) : Int))) rfl) ?_
        refine WL.val1 (R_move (v := .slice (a293) ((rallS z_rallS_s_3_1 2)).length (c294)) rfl) ?_
        refine WL.val1 (R_len_slice (n := ((rallS z_rallS_s_3_1 2)).length) rfl Tryd.underlying24) ?_
        refine WL.val1 (R_lss (a := ((i : Nat) : Int)) (b := ((((rallS z_rallS_s_3_1 2)).length : Nat) : Int)) rfl rfl) ?_
        refine WL.nil ?_
        refine then_normal ?_
        refine WC.condP (((i : Nat) : Int) < ((((rallS z_rallS_s_3_1 2)).length : Nat) : Int)) rfl (fun c1 => ?_) (fun c1 => ?_)
        · skip
          refine WC.skip ?_
          refine then_normal ?_
          refine WC.seq ?_
          refine WC.block ?_
          refine WC.seq ?_
          refine WC.region ?_
          refine WL.val1 (R_move (v := .slice (a293) ((rallS z_rallS_s_3_1 2)).length (c294)) rfl) ?_
          refine WL.val1 (R_move (v := .int .i64 (((i : Nat) : Int))) rfl) ?_
          refine WL.val1 (R_add_i (a := ((i : Nat) : Int)) (b := 1) rfl rfl (by first | omega | (have := hb_rallS_s_3_1; omega))) ?_
          obtain ⟨z_rallS_z_rallS_s_3_1_2_i_1, hz_rallS_z_rallS_s_3_1_2_i_1⟩ : ∃ z, ((rallS z_rallS_s_3_1 2))[(i + 1)]? = some z := ⟨_, List.getElem?_eq_getElem (by first | omega | (have := hb_rallS_s_3_1; omega))⟩
          obtain ⟨b104, o105, cs109, ha106, hr107, hat108⟩ := (hf95.mono hl102).2 (i + 1) z_rallS_z_rallS_s_3_1_2_i_1 hz_rallS_z_rallS_s_3_1_2_i_1
          subst hr107
          refine WL.val1 (R_indexAddrE (i := (((i : Nat) : Int) + 1)) (m := (i + 1)) ha106 rfl rfl Tryd.underlying24 (Tryd.sizeOf9 _) (by first | rfl | (first | omega | (have := hb_rallS_s_3_1; omega))) (by first | omega | (have := hb_rallS_s_3_1; omega))) ?_
          refine WL.val1 (R_loadC (v := .string (B (z_rallS_z_rallS_s_3_1_2_i_1))) hS99 rfl hat108 Tryd.isAgg9 rfl) ?_
          refine WL.val1 (R_assign (v := .string (B (z_rallS_z_rallS_s_3_1_2_i_1))) rfl) ?_
          refine WL.nil ?_
          refine then_normal ?_
          refine WC.seq ?_
          refine WC.region ?_
          refine WL.val1 (R_move (v := .slice (a293) ((rallS z_rallS_s_3_1 2)).length (c294)) rfl) ?_
          refine WL.val1 (R_move (v := .int .i64 (((i : Nat) : Int))) rfl) ?_
          obtain ⟨z_rallS_z_rallS_s_3_1_2_i, hz_rallS_z_rallS_s_3_1_2_i⟩ : ∃ z, ((rallS z_rallS_s_3_1 2))[i]? = some z := ⟨_, List.getElem?_eq_getElem (by first | omega | (have := hb_rallS_s_3_1; omega))⟩
          obtain ⟨b110, o111, cs115, ha112, hr113, hat114⟩ := (hf95.mono hl102).2 i z_rallS_z_rallS_s_3_1_2_i hz_rallS_z_rallS_s_3_1_2_i
          subst hr113
          refine WL.val1 (R_indexAddrE (i := ((i : Nat) : Int)) (m := i) ha112 rfl rfl Tryd.underlying24 (Tryd.sizeOf9 _) (by first | rfl | (first | omega | (have := hb_rallS_s_3_1; omega))) (by first | omega | (have := hb_rallS_s_3_1; omega))) ?_
          refine WL.val1 (R_loadC (v := .string (B (z_rallS_z_rallS_s_3_1_2_i))) hS99 rfl hat114 Tryd.isAgg9 rfl) ?_
          refine WL.val1 (R_build (vs := [(0, .string (B (z_rallS_z_rallS_s_3_1_2_i)))]) (v := .agg #[.string (B (z_rallS_z_rallS_s_3_1_2_i)), .bool (false), .string (B (([] : Str)))]) rfl (fun _ => by kernel_rfl)) ?_
          refine S_alloc hS99 Tryd.zeroValue51 ?_
          intro w117 hS116
          refine S_store (i := 0) (b := w100.heap.size) (l := [.string (B (([] : Str))), .bool (false), .string (B (([] : Str)))]) (l' := [.string (B (z_rallS_z_rallS_s_3_1_2_i)), .bool (false), .string (B (([] : Str)))]) (vs := [.string (B (z_rallS_z_rallS_s_3_1_2_i)), .bool (false), .string (B (([] : Str)))]) (v := .agg #[.string (B (z_rallS_z_rallS_s_3_1_2_i)), .bool (false), .string (B (([] : Str)))]) hS116 rfl rfl rfl Tryd.sizeOf51 rfl rfl rfl (Nat.le_of_ble_eq_true rfl) rfl rfl ?_
          intro w119 hS118
          refine WL.nil ?_
          refine then_normal ?_
          refine WC.seq ?_
          refine WC.seq ?_
          refine WC.region ?_
          refine WL.val1 (R_move (v := .string (B (z_rallS_z_rallS_s_3_1_2_i_1))) rfl) ?_
          refine WL.val1 (R_sneq (a := z_rallS_z_rallS_s_3_1_2_i_1) (b := ([45] : Str)) rfl rfl) ?_
          refine WL.val1 (R_fieldAddr (b := w100.heap.size) (off := 0) (m := 1) rfl (fun _ => by kernel_rfl)) ?_
          refine S_store (i := 0) (b := w100.heap.size) (l := [.string (B (z_rallS_z_rallS_s_3_1_2_i)), .bool (false), .string (B (([] : Str)))]) (l' := [.string (B (z_rallS_z_rallS_s_3_1_2_i)), .bool (decide (z_rallS_z_rallS_s_3_1_2_i_1 ≠ ([45] : Str))), .string (B (([] : Str)))]) (vs := [.bool (decide (z_rallS_z_rallS_s_3_1_2_i_1 ≠ ([45] : Str)))]) (v := .bool (decide (z_rallS_z_rallS_s_3_1_2_i_1 ≠ ([45] : Str)))) hS118 rfl rfl rfl Tryd.sizeOf4 rfl rfl rfl (Nat.le_of_ble_eq_true rfl) rfl rfl ?_
          intro w121 hS120
          refine WL.nil ?_
          refine then_normal ?_
          refine WC.seq ?_
          refine WC.region ?_
          refine WL.val1 (R_fieldAddr (b := w100.heap.size) (off := 0) (m := 1) rfl (fun _ => by kernel_rfl)) ?_
          refine WL.val1 (R_load (v := .bool (decide (z_rallS_z_rallS_s_3_1_2_i_1 ≠ ([45] : Str)))) rfl (hS120.has (i := 0) rfl) (Tryd.isAgg4 _) rfl) ?_
          refine WL.val1 (R_move (v := .bool (decide (z_rallS_z_rallS_s_3_1_2_i_1 ≠ ([45] : Str)))) rfl) ?_
          refine WL.gpure (gd := decide (z_rallS_z_rallS_s_3_1_2_i_1 ≠ ([45] : Str))) (yl_t (d := 56) rfl rfl) (fun hg => R_move (v := .string (B (z_rallS_z_rallS_s_3_1_2_i_1))) rfl) ?_
          refine WL.gpure (gd := decide (z_rallS_z_rallS_s_3_1_2_i_1 ≠ ([45] : Str))) (yl_t (d := 56) rfl rfl) (fun hg => R_sneq (a := z_rallS_z_rallS_s_3_1_2_i_1) (b := ([] : Str)) (gvT hg rfl) rfl) ?_
          refine WL.val1 (R_and (cb := decide (z_rallS_z_rallS_s_3_1_2_i_1 ≠ ([45] : Str))) (yb := decide (z_rallS_z_rallS_s_3_1_2_i_1 ≠ ([] : Str))) rfl rfl rfl) ?_
          refine WL.nil ?_
          refine then_normal ?_
          refine WC.condI ((z_rallS_z_rallS_s_3_1_2_i_1 ≠ ([45] : Str) ∧ z_rallS_z_rallS_s_3_1_2_i_1 ≠ ([] : Str))) (b := (decide (z_rallS_z_rallS_s_3_1_2_i_1 ≠ ([45] : Str)) && decide (z_rallS_z_rallS_s_3_1_2_i_1 ≠ ([] : Str)))) rfl (b_and b_dec b_dec) (fun c2 => ?_) (fun c2 => ?_)
          · skip
            have hlen := pos_of_ne c2.2
            refine WC.region ?_
            refine WL.val1 (R_move (v := .string (B (z_rallS_z_rallS_s_3_1_2_i_1))) rfl) ?_
            refine WL.val1 (R_sslice_l (a := z_rallS_z_rallS_s_3_1_2_i_1) (i := 1) (m := 1) rfl rfl Tryd.underlying9 (by first | rfl | (first | omega | (have := hb_rallS_s_3_1; omega))) (by first | omega | (have := hb_rallS_s_3_1; omega))) ?_
            refine WL.val1 (R_fieldAddr (b := w100.heap.size) (off := 0) (m := 2) rfl (fun _ => by kernel_rfl)) ?_
            refine S_store (i := 0) (b := w100.heap.size) (l := [.string (B (z_rallS_z_rallS_s_3_1_2_i)), .bool (decide (z_rallS_z_rallS_s_3_1_2_i_1 ≠ ([45] : Str))), .string (B (([] : Str)))]) (l' := [.string (B (z_rallS_z_rallS_s_3_1_2_i)), .bool (decide (z_rallS_z_rallS_s_3_1_2_i_1 ≠ ([45] : Str))), .string (B ((z_rallS_z_rallS_s_3_1_2_i_1.drop 1)))]) (vs := [.string (B ((z_rallS_z_rallS_s_3_1_2_i_1.drop 1)))]) (v := .string (B ((z_rallS_z_rallS_s_3_1_2_i_1.drop 1)))) hS120 rfl rfl rfl Tryd.sizeOf9 rfl rfl rfl (Nat.le_of_ble_eq_true rfl) rfl rfl ?_
            intro w123 hS122
            refine WL.nil ?_
            refine then_normal ?_
            refine WC.region ?_
            refine WL.val1 (R_fieldAddr (b := w2.heap.size) (off := 0) (m := 1) rfl (fun _ => by kernel_rfl)) ?_
            refine WL.val1 (R_load (v := .slice (sn_a) (sn).length (sn_c)) rfl (hS122.has (i := 2) rfl) (Tryd.isAgg30 _) rfl) ?_
            refine WL.val1 (R_loadA (cs := [.string (B (z_rallS_z_rallS_s_3_1_2_i)), .bool (decide (z_rallS_z_rallS_s_3_1_2_i_1 ≠ ([45] : Str))), .string (B ((z_rallS_z_rallS_s_3_1_2_i_1.drop 1)))]) rfl (hS122.has (i := 0) rfl) (Tryd.isAgg51 _) (Tryd.sizeOf51 _) rfl (sub_cells rfl)) ?_
            refine S_buildSliceC (R := RSeen) (m := 1) (vs := [(0, .agg #[.string (B (z_rallS_z_rallS_s_3_1_2_i)), .bool (decide (z_rallS_z_rallS_s_3_1_2_i_1 ≠ ([45] : Str))), .string (B ((z_rallS_z_rallS_s_3_1_2_i_1.drop 1)))])]) (cells := [.string (B (z_rallS_z_rallS_s_3_1_2_i)), .bool (decide (z_rallS_z_rallS_s_3_1_2_i_1 ≠ ([45] : Str))), .string (B ((z_rallS_z_rallS_s_3_1_2_i_1.drop 1)))]) (xs := [{ name := z_rallS_z_rallS_s_3_1_2_i, there := decide (z_rallS_z_rallS_s_3_1_2_i_1 ≠ ([45] : Str)), text := (z_rallS_z_rallS_s_3_1_2_i_1.drop 1) : Seen }]) hS122 Tryd.underlying30 Tryd.sizeOf51 Tryd.zeroValue51 (by decide) (by decide) rfl (by kernel_rfl) (by exact (⟨[.string (B (z_rallS_z_rallS_s_3_1_2_i)), .bool (decide (z_rallS_z_rallS_s_3_1_2_i_1 ≠ ([45] : Str))), .string (B ((z_rallS_z_rallS_s_3_1_2_i_1.drop 1)))], _, rfl, rfl, rfl⟩ : Flat RSeen _ [{ name := z_rallS_z_rallS_s_3_1_2_i, there := decide (z_rallS_z_rallS_s_3_1_2_i_1 ≠ ([45] : Str)), text := (z_rallS_z_rallS_s_3_1_2_i_1.drop 1) : Seen }] _)) rfl ?_
            intro h126 b128 w125 hl127 hs129 hS124
            refine S_append (info := Tryd.t51) (R := RSeen) (xs := sn) (ys := [{ name := z_rallS_z_rallS_s_3_1_2_i, there := decide (z_rallS_z_rallS_s_3_1_2_i_1 ≠ ([45] : Str)), text := (z_rallS_z_rallS_s_3_1_2_i_1.drop 1) : Seen }]) (a := sn_a) (c := sn_c) 1 Tryd.underlying30 (by kernel_rfl) rfl rfl rfl (by decide) 40 rfl hS124 rfl hl127 hs129 rfl rfl (by (try simp only [List.length_append, List.length_cons, List.length_nil]); omega) (by (try simp only [List.length_append, List.length_cons, List.length_nil]); omega) ?_
            intro a130 c131 w132 hS133
            refine WL.val1 (R_fieldAddr (b := w2.heap.size) (off := 0) (m := 1) rfl (fun _ => by kernel_rfl)) ?_
            refine S_store (i := 2) (b := w2.heap.size) (l := [.string (B (z_rallS_s_3_0)), .slice (sn_a) (sn).length (sn_c), .slice none 0 0]) (l' := [.string (B (z_rallS_s_3_0)), .slice (a130) ((sn ++ [{ name := z_rallS_z_rallS_s_3_1_2_i, there := decide (z_rallS_z_rallS_s_3_1_2_i_1 ≠ ([45] : Str)), text := (z_rallS_z_rallS_s_3_1_2_i_1.drop 1) : Seen }])).length (c131), .slice none 0 0]) (vs := [.slice (a130) ((sn ++ [{ name := z_rallS_z_rallS_s_3_1_2_i, there := decide (z_rallS_z_rallS_s_3_1_2_i_1 ≠ ([45] : Str)), text := (z_rallS_z_rallS_s_3_1_2_i_1.drop 1) : Seen }])).length (c131)]) (v := .slice (a130) ((sn ++ [{ name := z_rallS_z_rallS_s_3_1_2_i, there := decide (z_rallS_z_rallS_s_3_1_2_i_1 ≠ ([45] : Str)), text := (z_rallS_z_rallS_s_3_1_2_i_1.drop 1) : Seen }])).length (c131)) hS133 rfl rfl rfl Tryd.sizeOf30 rfl rfl rfl (Nat.le_of_ble_eq_true rfl) rfl rfl ?_
            intro w135 hS134
            refine WL.nil ?_
            refine block_normal ?_
            refine then_normal ?_
            refine WC.region ?_
            refine WL.val1 (R_move (v := .int .i64 (((i : Nat) : Int))) rfl) ?_
            refine WL.val1 (R_add_i (a := ((i : Nat) : Int)) (b := 2) rfl rfl (by first | omega | (have := hb_rallS_s_3_1; omega))) ?_
            refine WL.val1 (R_assign (v := .int .i64 ((((i : Nat) : Int) + 2))) rfl) ?_
            refine WL.nil ?_
            refine then_normal ?_
            have hS136 := hS134.growMono (i := 4) rfl hl127
            exact ⟨(i + 2, (sn ++ [{ name := z_rallS_z_rallS_s_3_1_2_i, there := decide (z_rallS_z_rallS_s_3_1_2_i_1 ≠ ([45] : Str)), text := (z_rallS_z_rallS_s_3_1_2_i_1.drop 1) : Seen }]), a130, c131), ⟨rfl, rfl, rfl, rfl, (by first | rfl | (apply congrArg (Value.int .i64); omega) | simp), trivial⟩, ⟨h126, (hl102.trans hl127), hS136.pop, (by (try dsimp only); first | assumption | omega | simp), (by (try dsimp only); rw [← f2, takeSeens_step hz_rallS_z_rallS_s_3_1_2_i hz_rallS_z_rallS_s_3_1_2_i_1]; simp only [takeSeen]; (first | rw [if_pos c2] | rw [if_neg c2]); simp only [List.append_assoc, List.cons_append, List.nil_append]), (by (try dsimp only); simp; omega)⟩, (by first | (simp only []; omega) | (simp; omega))⟩
          · skip
            refine WC.skip ?_
            refine then_normal ?_
            refine WC.region ?_
            refine WL.val1 (R_fieldAddr (b := w2.heap.size) (off := 0) (m := 1) rfl (fun _ => by kernel_rfl)) ?_
            refine WL.val1 (R_load (v := .slice (sn_a) (sn).length (sn_c)) rfl (hS120.has (i := 2) rfl) (Tryd.isAgg30 _) rfl) ?_
            refine WL.val1 (R_loadA (cs := [.string (B (z_rallS_z_rallS_s_3_1_2_i)), .bool (decide (z_rallS_z_rallS_s_3_1_2_i_1 ≠ ([45] : Str))), .string (B (([] : Str)))]) rfl (hS120.has (i := 0) rfl) (Tryd.isAgg51 _) (Tryd.sizeOf51 _) rfl (sub_cells rfl)) ?_
            refine S_buildSliceC (R := RSeen) (m := 1) (vs := [(0, .agg #[.string (B (z_rallS_z_rallS_s_3_1_2_i)), .bool (decide (z_rallS_z_rallS_s_3_1_2_i_1 ≠ ([45] : Str))), .string (B (([] : Str)))])]) (cells := [.string (B (z_rallS_z_rallS_s_3_1_2_i)), .bool (decide (z_rallS_z_rallS_s_3_1_2_i_1 ≠ ([45] : Str))), .string (B (([] : Str)))]) (xs := [{ name := z_rallS_z_rallS_s_3_1_2_i, there := decide (z_rallS_z_rallS_s_3_1_2_i_1 ≠ ([45] : Str)), text := ([] : Str) : Seen }]) hS120 Tryd.underlying30 Tryd.sizeOf51 Tryd.zeroValue51 (by decide) (by decide) rfl (by kernel_rfl) (by exact (⟨[.string (B (z_rallS_z_rallS_s_3_1_2_i)), .bool (decide (z_rallS_z_rallS_s_3_1_2_i_1 ≠ ([45] : Str))), .string (B (([] : Str)))], _, rfl, rfl, rfl⟩ : Flat RSeen _ [{ name := z_rallS_z_rallS_s_3_1_2_i, there := decide (z_rallS_z_rallS_s_3_1_2_i_1 ≠ ([45] : Str)), text := ([] : Str) : Seen }] _)) rfl ?_
            intro h139 b141 w138 hl140 hs142 hS137
            refine S_append (info := Tryd.t51) (R := RSeen) (xs := sn) (ys := [{ name := z_rallS_z_rallS_s_3_1_2_i, there := decide (z_rallS_z_rallS_s_3_1_2_i_1 ≠ ([45] : Str)), text := ([] : Str) : Seen }]) (a := sn_a) (c := sn_c) 1 Tryd.underlying30 (by kernel_rfl) rfl rfl rfl (by decide) 40 rfl hS137 rfl hl140 hs142 rfl rfl (by (try simp only [List.length_append, List.length_cons, List.length_nil]); omega) (by (try simp only [List.length_append, List.length_cons, List.length_nil]); omega) ?_
            intro a143 c144 w145 hS146
            refine WL.val1 (R_fieldAddr (b := w2.heap.size) (off := 0) (m := 1) rfl (fun _ => by kernel_rfl)) ?_
            refine S_store (i := 2) (b := w2.heap.size) (l := [.string (B (z_rallS_s_3_0)), .slice (sn_a) (sn).length (sn_c), .slice none 0 0]) (l' := [.string (B (z_rallS_s_3_0)), .slice (a143) ((sn ++ [{ name := z_rallS_z_rallS_s_3_1_2_i, there := decide (z_rallS_z_rallS_s_3_1_2_i_1 ≠ ([45] : Str)), text := ([] : Str) : Seen }])).length (c144), .slice none 0 0]) (vs := [.slice (a143) ((sn ++ [{ name := z_rallS_z_rallS_s_3_1_2_i, there := decide (z_rallS_z_rallS_s_3_1_2_i_1 ≠ ([45] : Str)), text := ([] : Str) : Seen }])).length (c144)]) (v := .slice (a143) ((sn ++ [{ name := z_rallS_z_rallS_s_3_1_2_i, there := decide (z_rallS_z_rallS_s_3_1_2_i_1 ≠ ([45] : Str)), text := ([] : Str) : Seen }])).length (c144)) hS146 rfl rfl rfl Tryd.sizeOf30 rfl rfl rfl (Nat.le_of_ble_eq_true rfl) rfl rfl ?_
            intro w148 hS147
            refine WL.nil ?_
            refine block_normal ?_
            refine then_normal ?_
            refine WC.region ?_
            refine WL.val1 (R_move (v := .int .i64 (((i : Nat) : Int))) rfl) ?_
            refine WL.val1 (R_add_i (a := ((i : Nat) : Int)) (b := 2) rfl rfl (by first | omega | (have := hb_rallS_s_3_1; omega))) ?_
            refine WL.val1 (R_assign (v := .int .i64 ((((i : Nat) : Int) + 2))) rfl) ?_
            refine WL.nil ?_
            refine then_normal ?_
            have hS149 := hS147.growMono (i := 4) rfl hl140
            exact ⟨(i + 2, (sn ++ [{ name := z_rallS_z_rallS_s_3_1_2_i, there := decide (z_rallS_z_rallS_s_3_1_2_i_1 ≠ ([45] : Str)), text := ([] : Str) : Seen }]), a143, c144), ⟨rfl, rfl, rfl, rfl, (by first | rfl | (apply congrArg (Value.int .i64); omega) | simp), trivial⟩, ⟨h139, (hl102.trans hl140), hS149.pop, (by (try dsimp only); first | assumption | omega | simp), (by (try dsimp only); rw [← f2, takeSeens_step hz_rallS_z_rallS_s_3_1_2_i hz_rallS_z_rallS_s_3_1_2_i_1]; simp only [takeSeen]; (first | rw [if_pos c2] | rw [if_neg c2]); simp only [List.append_assoc, List.cons_append, List.nil_append]), (by (try dsimp only); simp; omega)⟩, (by first | (simp only []; omega) | (simp; omega))⟩
        · skip
          refine WC.exit ?_
          refine then_exit ?_
          refine then_exit ?_
          refine block_exit ?_
          refine then_normal ?_
          refine WC.seq ?_
          refine WC.region ?_
          refine WL.val1 (R_move (v := .slice (a29) ((rallS s 3)).length (c210)) rfl) ?_
          obtain ⟨z_rallS_s_3_2, hz_rallS_s_3_2⟩ : ∃ z, ((rallS s 3))[2]? = some z := ⟨_, List.getElem?_eq_getElem (by first | omega | (have := hb_rallS_s_3_1; omega))⟩
          obtain ⟨b150, o151, cs155, ha152, hr153, hat154⟩ := (hf11.mono ((hl83.trans hl89).trans hl102)).2 2 z_rallS_s_3_2 hz_rallS_s_3_2
          subst hr153
          have hb_rallS_s_3_2 := hb.1 z_rallS_s_3_2 (List.mem_of_getElem? hz_rallS_s_3_2)
          refine WL.val1 (R_indexAddrE (i := 2) (m := 2) ha152 rfl rfl Tryd.underlying24 (Tryd.sizeOf9 _) (by first | rfl | (first | omega | (have := hb_rallS_s_3_1; omega))) (by first | omega | (have := hb_rallS_s_3_1; omega))) ?_
          refine WL.val1 (R_loadC (v := .string (B (z_rallS_s_3_2))) hS99 rfl hat154 Tryd.isAgg9 rfl) ?_
          refine S_callF (vs := [.string (B (z_rallS_s_3_2))]) hS99 Tryd.call45 rfl (wire_Parse (z_rallS_s_3_2) (by first | assumption | omega)) trivial ?_
          intro h158 v160 w157 hl159 hp161 hS156
          obtain ⟨a162, c163, rfl, hf164⟩ := hp161
          refine WL.val1 (R_move (v := .tuple #[.slice (a162) ((parseS z_rallS_s_3_2).1).length (c163), .int .i64 ((parseS z_rallS_s_3_2).2)]) rfl) ?_
          refine WL.val1 (R_extract (vs := ([.slice (a162) ((parseS z_rallS_s_3_2).1).length (c163), .int .i64 ((parseS z_rallS_s_3_2).2)] : List Value).toArray) (v := .slice (a162) ((parseS z_rallS_s_3_2).1).length (c163)) rfl rfl) ?_
          refine WL.val1 (R_extract (vs := ([.slice (a162) ((parseS z_rallS_s_3_2).1).length (c163), .int .i64 ((parseS z_rallS_s_3_2).2)] : List Value).toArray) (v := .int .i64 ((parseS z_rallS_s_3_2).2)) rfl rfl) ?_
          refine WL.val1 (R_assign (v := .slice (a162) ((parseS z_rallS_s_3_2).1).length (c163)) rfl) ?_
          refine WL.val1 (R_assign (v := .int .i64 ((parseS z_rallS_s_3_2).2)) rfl) ?_
          refine WL.nil ?_
          refine then_normal ?_
          refine WC.seq ?_
          refine WC.region ?_
          refine WL.val1 (R_move (v := .pointer (some ⟨t_b, 0, none⟩)) rfl) ?_
          refine WL.val1 (R_move (v := .pointer (some ⟨t_b, 0, none⟩)) rfl) ?_
          refine WL.val1 (R_nilCheck rfl) ?_
          refine WL.val1 (R_fieldAddr (b := t_b) (off := 0) (m := 0) rfl (fun _ => by kernel_rfl)) ?_
          refine WL.val1 (R_fieldAddr (b := t_b) (off := 0) (m := 0) rfl (fun _ => by kernel_rfl)) ?_
          refine WL.val1 (R_load (v := .bool ((((bad || rallB s 3)) || rallB z_rallS_s_3_1 2))) rfl (hS156.has (i := 2) rfl) (Tryd.isAgg4 _) rfl) ?_
          refine WL.val1 (R_move (v := .bool ((((bad || rallB s 3)) || rallB z_rallS_s_3_1 2))) rfl) ?_
          refine WL.gpure (gd := (!((((bad || rallB s 3)) || rallB z_rallS_s_3_1 2)))) (yl_f (d := 82) rfl rfl) (fun hg => R_move (v := .int .i64 ((parseS z_rallS_s_3_2).2)) rfl) ?_
          refine WL.gpure (gd := (!((((bad || rallB s 3)) || rallB z_rallS_s_3_1 2)))) (yl_f (d := 82) rfl rfl) (fun hg => R_neq (a := (parseS z_rallS_s_3_2).2) (b := 0) (gvT hg rfl) rfl) ?_
          refine WL.val1 (R_or (cb := (((bad || rallB s 3)) || rallB z_rallS_s_3_1 2)) (yb := decide ((parseS z_rallS_s_3_2).2 ≠ 0)) rfl rfl rfl) ?_
          refine WL.val1 (R_nilCheck rfl) ?_
          refine WL.val1 (R_fieldAddr (b := t_b) (off := 0) (m := 0) rfl (fun _ => by kernel_rfl)) ?_
          refine WL.val1 (R_fieldAddr (b := t_b) (off := 0) (m := 0) rfl (fun _ => by kernel_rfl)) ?_
          refine S_store (i := 2) (b := t_b) (l := [.bool ((((bad || rallB s 3)) || rallB z_rallS_s_3_1 2)), .slice (acc_a) (acc).length (acc_c)]) (l' := [.bool (((((bad || rallB s 3)) || rallB z_rallS_s_3_1 2) || decide ((parseS z_rallS_s_3_2).2 ≠ 0))), .slice (acc_a) (acc).length (acc_c)]) (vs := [.bool (((((bad || rallB s 3)) || rallB z_rallS_s_3_1 2) || decide ((parseS z_rallS_s_3_2).2 ≠ 0)))]) (v := .bool (((((bad || rallB s 3)) || rallB z_rallS_s_3_1 2) || decide ((parseS z_rallS_s_3_2).2 ≠ 0)))) hS156 rfl rfl rfl Tryd.sizeOf4 rfl rfl rfl (Nat.le_of_ble_eq_true rfl) rfl rfl ?_
          intro w166 hS165
          refine WL.nil ?_
          refine then_normal ?_
          refine WC.seq ?_
          refine WC.region ?_
          refine WL.val1 (R_move (v := .slice (a162) ((parseS z_rallS_s_3_2).1).length (c163)) rfl) ?_
          refine WL.val1 (R_fieldAddr (b := w2.heap.size) (off := 0) (m := 2) rfl (fun _ => by kernel_rfl)) ?_
          refine S_store (i := 1) (b := w2.heap.size) (l := [.string (B (z_rallS_s_3_0)), .slice (sn_a) (sn).length (sn_c), .slice none 0 0]) (l' := [.string (B (z_rallS_s_3_0)), .slice (sn_a) (sn).length (sn_c), .slice (a162) ((parseS z_rallS_s_3_2).1).length (c163)]) (vs := [.slice (a162) ((parseS z_rallS_s_3_2).1).length (c163)]) (v := .slice (a162) ((parseS z_rallS_s_3_2).1).length (c163)) hS165 rfl rfl rfl Tryd.sizeOf23 rfl rfl rfl (Nat.le_of_ble_eq_true rfl) rfl rfl ?_
          intro w168 hS167
          refine WL.nil ?_
          refine then_normal ?_
          obtain ⟨h169, hl170, hs171, hS172⟩ := hS167.growCommit (i := 0) rfl hl159
          have hS173 := hS172.growMono (i := 3) rfl (hl159.trans hl170)
          refine WC.draw2 (J0 := fun h_ w_ => St Γ h_ (emp :: row (w2.heap.size) [.string (B (z_rallS_s_3_0)), .slice (sn_a) (sn).length (sn_c), .slice (a162) ((parseS z_rallS_s_3_2).1).length (c163)] 35 :: row (t_b) [.bool (((((bad || rallB s 3)) || rallB z_rallS_s_3_1 2) || decide ((parseS z_rallS_s_3_2).2 ≠ 0))), .slice (acc_a) (acc).length (acc_c)] 81 :: grow 35 RRec h169 (acc) (acc_a) (acc_c) :: L) w_) (J1 := fun h_ v_ w_ => ∃ a_ c_, v_ = .slice a_ ((acc ++ [{ name := z_rallS_s_3_0, seens := sn, files := (parseS z_rallS_s_3_2).1 : Rec }])).length c_ ∧ St Γ h_ (emp :: row (w2.heap.size) [.string (B (z_rallS_s_3_0)), .slice (sn_a) (sn).length (sn_c), .slice (a162) ((parseS z_rallS_s_3_2).1).length (c163)] 35 :: row (t_b) [.bool (((((bad || rallB s 3)) || rallB z_rallS_s_3_1 2) || decide ((parseS z_rallS_s_3_2).2 ≠ 0))), .slice (acc_a) (acc).length (acc_c)] 81 :: grow 35 RRec h_ ((acc ++ [{ name := z_rallS_s_3_0, seens := sn, files := (parseS z_rallS_s_3_2).1 : Rec }])) (a_) (c_) :: L) w_) 8 7 98 [0] [(0, .pointer (some ⟨t_b, 0, none⟩)), (5, .pointer (some ⟨w2.heap.size, 0, none⟩))] [fun _ v => v = .pointer (some ⟨t_b, 0, none⟩), fun _ v => v = .pointer (some ⟨t_b, 0, none⟩), fun _ v => v = .pointer (some ⟨t_b, 0, none⟩), fun _ v => v = .pointer (some ⟨t_b, 1, none⟩), fun _ v => v = .slice (acc_a) (acc).length (acc_c), fun _ v => v = .agg #[.string (B (z_rallS_s_3_0)), .slice (sn_a) (sn).length (sn_c), .slice (a162) ((parseS z_rallS_s_3_2).1).length (c163)], fun h v => ∃ (b0_ : Nat), v = .slice (some ⟨b0_, 0, none⟩) 1 (1) ∧ Sl RRec h ([{ name := z_rallS_s_3_0, seens := sn, files := (parseS z_rallS_s_3_2).1 : Rec }]) (some ⟨b0_, 0, none⟩) (1), fun _ _ => True] hS173 (fun _ _ _ e_ k_ => k_.ext e_) rfl (by decide) (by kernel_rfl) (by kernel_rfl) (by kernel_rfl) (MonoFs.pure (MonoFs.pure (MonoFs.pure (MonoFs.pure (MonoFs.pure (MonoFs.pure (MonoFs.cons (fun _ _ _ hl ⟨x0, e, y0⟩ => ⟨x0, e, y0.mono hl⟩) (MonoFs.pure MonoFs.nil)))))))) ⟨rfl, rfl, trivial⟩ ⟨?_, ?_, ?_, ?_, ?_, ?_, ?_, ?_, trivial⟩ ?_
          · refine step2_late (by decide) ?_ ?_
            · intro r_ w222 h223 hl224 hS221 hb_ hp_
              obtain ⟨b0_, b1_, _⟩ := hb_
              refine WL.val1 (R_move (v := .pointer (some ⟨t_b, 0, none⟩)) b0_) ?_
              refine WL.nil ?_
              exact ⟨rfl, _, _, rfl, (Hp.le_refl _), rfl, hS221⟩
            · intro r_ w226 h227 hl228 hJ_ hb_ hp_
              obtain ⟨a_, c_, hv_, hS225⟩ := hJ_
              obtain ⟨b0_, b1_, _⟩ := hb_
              refine WL.val1 (R_move (v := .pointer (some ⟨t_b, 0, none⟩)) b0_) ?_
              refine WL.nil ?_
              exact ⟨rfl, _, _, rfl, (Hp.le_refl _), rfl, a_, c_, hv_, hS225⟩
          · refine step2_pre (by decide) (by decide) ?_
            · intro r_ w230 h231 hl232 hS229 hb_ hp_
              obtain ⟨b0_, b1_, _⟩ := hb_
              refine WL.val1 (R_move (v := .pointer (some ⟨t_b, 0, none⟩)) b0_) ?_
              refine WL.nil ?_
              exact ⟨rfl, _, _, rfl, (Hp.le_refl _), rfl, hS229⟩
          · refine step2_pre (by decide) (by decide) ?_
            · intro r_ w234 h235 hl236 hS233 hb_ hp_
              obtain ⟨b0_, b1_, _⟩ := hb_
              obtain ⟨p0_, _⟩ := hp_
              have p0_ : r_ 92 = .pointer (some ⟨t_b, 0, none⟩) := p0_
              refine WL.val1 (R_nilCheck p0_) ?_
              refine WL.nil ?_
              exact ⟨rfl, _, _, rfl, (Hp.le_refl _), rfl, hS233⟩
          · refine step2_pre (by decide) (by decide) ?_
            · intro r_ w238 h239 hl240 hS237 hb_ hp_
              obtain ⟨b0_, b1_, _⟩ := hb_
              obtain ⟨p0_, _⟩ := hp_
              have p0_ : r_ 93 = .pointer (some ⟨t_b, 0, none⟩) := p0_
              refine WL.val1 (R_fieldAddr (b := t_b) (off := 0) (m := 1) p0_ (fun _ => by kernel_rfl)) ?_
              refine WL.nil ?_
              exact ⟨rfl, _, _, rfl, (Hp.le_refl _), rfl, hS237⟩
          · refine step2_pre (by decide) (by decide) ?_
            · intro r_ w242 h243 hl244 hS241 hb_ hp_
              obtain ⟨b0_, b1_, _⟩ := hb_
              obtain ⟨p0_, _⟩ := hp_
              have p0_ : r_ 94 = .pointer (some ⟨t_b, 1, none⟩) := p0_
              refine WL.val1 (R_load (v := .slice (acc_a) (acc).length (acc_c)) p0_ (hS241.has (i := 2) rfl) (Tryd.isAgg22 _) rfl) ?_
              refine WL.nil ?_
              exact ⟨rfl, _, _, rfl, (Hp.le_refl _), rfl, hS241⟩
          · refine step2_pre (by decide) (by decide) ?_
            · intro r_ w246 h247 hl248 hS245 hb_ hp_
              obtain ⟨b0_, b1_, _⟩ := hb_
              refine WL.val1 (R_loadA (cs := [.string (B (z_rallS_s_3_0)), .slice (sn_a) (sn).length (sn_c), .slice (a162) ((parseS z_rallS_s_3_2).1).length (c163)]) b1_ (hS245.has (i := 1) rfl) (Tryd.isAgg35 _) (Tryd.sizeOf35 _) rfl (sub_cells rfl)) ?_
              refine WL.nil ?_
              exact ⟨rfl, _, _, rfl, (Hp.le_refl _), rfl, hS245⟩
          · refine step2_pre (by decide) (by decide) ?_
            · intro r_ w250 h251 hl252 hS249 hb_ hp_
              obtain ⟨b0_, b1_, _⟩ := hb_
              obtain ⟨p0_, _⟩ := hp_
              have p0_ : r_ 96 = .agg #[.string (B (z_rallS_s_3_0)), .slice (sn_a) (sn).length (sn_c), .slice (a162) ((parseS z_rallS_s_3_2).1).length (c163)] := p0_
              refine S_buildSliceC (R := RRec) (m := 1) (vs := [(0, .agg #[.string (B (z_rallS_s_3_0)), .slice (sn_a) (sn).length (sn_c), .slice (a162) ((parseS z_rallS_s_3_2).1).length (c163)])]) (cells := [.string (B (z_rallS_s_3_0)), .slice (sn_a) (sn).length (sn_c), .slice (a162) ((parseS z_rallS_s_3_2).1).length (c163)]) (xs := [{ name := z_rallS_s_3_0, seens := sn, files := (parseS z_rallS_s_3_2).1 : Rec }]) hS249 Tryd.underlying22 Tryd.sizeOf35 Tryd.zeroValue35 (by decide) (by decide) (pmap1 (v := .agg #[.string (B (z_rallS_s_3_0)), .slice (sn_a) (sn).length (sn_c), .slice (a162) ((parseS z_rallS_s_3_2).1).length (c163)]) p0_) (by kernel_rfl) (by exact (⟨[.string (B (z_rallS_s_3_0)), .slice (sn_a) (sn).length (sn_c), .slice (a162) ((parseS z_rallS_s_3_2).1).length (c163)], _, rfl, ⟨sn_a, sn_c, a162, c163, rfl, (hs171.mono hl252), (hf164.mono (hl170.trans hl252))⟩, rfl⟩ : Flat RRec _ [{ name := z_rallS_s_3_0, seens := sn, files := (parseS z_rallS_s_3_2).1 : Rec }] _)) rfl ?_
              intro h255 b257 w254 hl256 hs258 hS253
              refine WL.nil ?_
              exact ⟨rfl, _, _, rfl, hl256, ⟨b257, rfl, hs258⟩, hS253⟩
          · refine step2_s (by decide) ?_
            · intro r_ w262 h263 hl264 hS261 hb_ hp_
              obtain ⟨b0_, b1_, _⟩ := hb_
              obtain ⟨p0_, p1_, _⟩ := hp_
              have p0_ : r_ 95 = .slice (acc_a) (acc).length (acc_c) := p0_
              obtain ⟨b265, p1_, hs266⟩ := p1_
              refine S_append (info := Tryd.t35) (R := RRec) (xs := acc) (ys := [{ name := z_rallS_s_3_0, seens := sn, files := (parseS z_rallS_s_3_2).1 : Rec }]) (a := acc_a) (c := acc_c) 3 Tryd.underlying22 (by kernel_rfl) rfl rfl rfl (by decide) 64 rfl hS261 rfl hl264 hs266 p0_ p1_ (by (try simp only [List.length_append, List.length_cons, List.length_nil]); omega) (by (try simp only [List.length_append, List.length_cons, List.length_nil]); omega) ?_
              intro a267 c268 w269 hS270
              refine WL.nil ?_
              exact ⟨rfl, _, _, rfl, (Hp.le_refl _), trivial, a267, c268, rfl, hS270⟩
          · intro r_ w272 h273 hl274 hJ_ hb_ hf_
            obtain ⟨a275, c276, qs_, hS271⟩ := hJ_
            obtain ⟨b0_, b1_, _⟩ := hb_
            obtain ⟨q0_, q1_, q2_, q3_, q4_, q5_, q6_, q7_, _⟩ := hf_
            obtain ⟨b277, q6_, hs278⟩ := q6_
            refine WL.frame [(0, .pointer (some ⟨t_b, 0, none⟩)), (5, .pointer (some ⟨w2.heap.size, 0, none⟩)), (98, .slice (a275) ((acc ++ [{ name := z_rallS_s_3_0, seens := sn, files := (parseS z_rallS_s_3_2).1 : Rec }])).length (c276)), (91, .pointer (some ⟨t_b, 0, none⟩)), (92, .pointer (some ⟨t_b, 0, none⟩)), (93, .pointer (some ⟨t_b, 0, none⟩)), (94, .pointer (some ⟨t_b, 1, none⟩)), (95, .slice (acc_a) (acc).length (acc_c)), (96, .agg #[.string (B (z_rallS_s_3_0)), .slice (sn_a) (sn).length (sn_c), .slice (a162) ((parseS z_rallS_s_3_2).1).length (c163)]), (97, .slice (some ⟨b277, 0, none⟩) 1 (1))] ⟨b0_, b1_, qs_, q0_, q1_, q2_, q3_, q4_, q5_, q6_, trivial⟩ (fun r_ => ?_)
            refine WL.val1 (R_nilCheck rfl) ?_
            refine WL.val1 (R_fieldAddr (b := t_b) (off := 0) (m := 1) rfl (fun _ => by kernel_rfl)) ?_
            refine S_store (i := 2) (b := t_b) (l := [.bool (((((bad || rallB s 3)) || rallB z_rallS_s_3_1 2) || decide ((parseS z_rallS_s_3_2).2 ≠ 0))), .slice (acc_a) (acc).length (acc_c)]) (l' := [.bool (((((bad || rallB s 3)) || rallB z_rallS_s_3_1 2) || decide ((parseS z_rallS_s_3_2).2 ≠ 0))), .slice (a275) ((acc ++ [{ name := z_rallS_s_3_0, seens := sn, files := (parseS z_rallS_s_3_2).1 : Rec }])).length (c276)]) (vs := [.slice (a275) ((acc ++ [{ name := z_rallS_s_3_0, seens := sn, files := (parseS z_rallS_s_3_2).1 : Rec }])).length (c276)]) (v := .slice (a275) ((acc ++ [{ name := z_rallS_s_3_0, seens := sn, files := (parseS z_rallS_s_3_2).1 : Rec }])).length (c276)) hS271 rfl rfl rfl Tryd.sizeOf22 rfl rfl rfl (Nat.le_of_ble_eq_true rfl) rfl rfl ?_
            intro w280 hS279
            refine WL.nil ?_
            refine top_normal (.tuple #[]) (gives0 rfl) ?_
            have r0 := partS_at hz_rallS_s_3_0
            have r1 := partS_at hz_rallS_s_3_1
            have r2 := partS_at hz_rallS_s_3_2
            have f4 : sn = takeSeens (rallS z_rallS_s_3_1 2) := by rw [← f2, drop_nil (by omega)]; simp [takeSeens]
            have e_ : takeS bad acc s = (bad || rallB s 3 || rallB z_rallS_s_3_1 2 || decide ((parseS z_rallS_s_3_2).2 ≠ 0), acc ++ [⟨z_rallS_s_3_0, sn, (parseS z_rallS_s_3_2).1⟩]) := by rw [takeS, if_neg (by omega), takeRec, r0, r1, r2, ← f4]
            exact ⟨h273, [row (t_b) [.bool (((((bad || rallB s 3)) || rallB z_rallS_s_3_1 2) || decide ((parseS z_rallS_s_3_2).2 ≠ 0))), .slice (a275) ((acc ++ [{ name := z_rallS_s_3_0, seens := sn, files := (parseS z_rallS_s_3_2).1 : Rec }])).length (c276)] 81, grow 35 RRec h273 ((acc ++ [{ name := z_rallS_s_3_0, seens := sn, files := (parseS z_rallS_s_3_2).1 : Rec }])) (a275) (c276)], ((((((hl5.trans hl83).trans hl89).trans hl102).trans hl159).trans hl170).trans hl274), ⟨a275, c276, (by first | rfl | (rw [e_]; done) | (rw [e_]; rfl) | (simp; done)), (by first | rfl | (rw [e_]; done) | (rw [e_]; rfl))⟩, hS279.pop.pop⟩
set_option maxHeartbeats 400000 in
theorem rec_Decode (s : Str) (hs : s.length ≤ 1000) : FnC GG Tryd.prog 26 (fun _ => True) [.string (B (s))] (fun h v => ∃ (a : Option Addr) (c : Nat), v = .tuple #[.slice (a) ((decTake s).1).length (c), .int .i64 ((decTake s).2)] ∧ (Sl RRec h (decTake s).1 a c)) := by
  intro Γ h L w hpre hS
  have hb := rallS_bd s 1
  refine Ret.body Tryd.func26 rfl Tryd.ntmps26 (Nat.le_of_ble_eq_true rfl) ?_
  refine WC.seq ?_
  refine WC.region ?_
  refine WL.val1 (R_assign (v := .slice none 0 0) rfl) ?_
  refine WL.val1 (R_assign (v := .int .i64 (0)) rfl) ?_
  refine WL.nil ?_
  refine then_normal ?_
  refine WC.seq ?_
  refine WC.region ?_
  refine S_alloc hS Tryd.zeroValue81 ?_
  intro w2 hS1
  refine WL.nil ?_
  refine then_normal ?_
  refine WC.seq ?_
  refine WC.region ?_
  refine WL.val1 (R_fieldAddr (b := w.heap.size) (off := 0) (m := 0) rfl (fun _ => by kernel_rfl)) ?_
  refine WL.val1 (R_move (v := .string (B (s))) rfl) ?_
  have hS5 : St Γ h (row (w.heap.size) [.bool (false), .slice none 0 0] 81 :: emp :: L) w2 := hS1.front (i := 0) rfl
  refine S_callL (vs := [.pointer (some ⟨w.heap.size, 0, none⟩), .string (B (s)), .int .i64 (1)]) (A := fun hh_ => [row (w.heap.size) [.bool (false), .slice none 0 0] 81]) (L := emp :: L) hS5 Tryd.call36 rfl (rec_all (w.heap.size) (false) (.slice none 0 0) (s) (1) (by first | assumption | omega | exact (by decide) | exact ⟨by omega, f4⟩ | (have := hb_rallS_s_1_i; omega)) (by first | assumption | omega | exact (by decide) | exact ⟨by omega, f4⟩ | (have := hb_rallS_s_1_i; omega))) trivial ?_
  intro h6 A8 v9 w4 hl7 hp10 hS3
  obtain ⟨a211, c212, rfl, rfl, hf13⟩ := hp10
  have hS3 : St Γ h6 (row (w.heap.size) [.bool ((false || rallB s 1)), .slice none 0 0] 81 :: emp :: L) w4 := hS3
  have hS14 : St Γ h6 (row (w.heap.size) [.bool ((false || rallB s 1)), .slice none 0 0] 81 :: L) w4 := St.back (L := row (w.heap.size) [.bool ((false || rallB s 1)), .slice none 0 0] 81 :: L) (i := 0) hS3 rfl
  refine WL.val1 (R_assign (v := .slice (a211) ((rallS s 1)).length (c212)) rfl) ?_
  refine WL.nil ?_
  refine then_normal ?_
  refine WC.seq ?_
  refine WC.seq ?_
  refine WC.region ?_
  refine WL.val1 (R_move (v := .slice (a211) ((rallS s 1)).length (c212)) rfl) ?_
  refine WL.val1 (R_len_slice (n := ((rallS s 1)).length) rfl Tryd.underlying24) ?_
  refine WL.val1 (R_move (v := .int .i64 (0)) rfl) ?_
  refine WL.nil ?_
  refine then_normal ?_
  refine WC.block ?_
  have hS15 := hS14.growNil 35 RRec h6
  refine WC.loopL (σ := Nat × (List Rec) × (Option Addr) × Nat × Bool)
    (fun (q_ : Nat × (List Rec) × (Option Addr) × Nat × Bool) => (fun (i : Nat) (acc : List Rec) (acc_a : Option Addr) (acc_c : Nat) (bad : Bool) => [(0, .string (B (s))), (4, .pointer (some ⟨w.heap.size, 0, none⟩)), (13, .slice (a211) ((rallS s 1)).length (c212)), (14, .int .i64 (((((rallS s 1)).length : Nat) : Int))), (15, .int .i64 (((i : Nat) : Int)))]) (q_.1) (q_.2.1) (q_.2.2.1) (q_.2.2.2.1) (q_.2.2.2.2))
    (fun (q_ : Nat × (List Rec) × (Option Addr) × Nat × Bool) (w_ : World) => (fun (i : Nat) (acc : List Rec) (acc_a : Option Addr) (acc_c : Nat) (bad : Bool) => ∃ h18 : Hp, h6.le h18 ∧ St Γ h18 (grow 35 RRec h18 (acc) (acc_a) (acc_c) :: row (w.heap.size) [.bool (bad), .slice (acc_a) (acc).length (acc_c)] 81 :: L) w_ ∧ (i ≤ (rallS s 1).length) ∧ (takesF ((rallS s 1).drop (max 1 i)) (bad, acc) = takesS s) ∧ (acc.length ≤ i) ∧ (∀ x ∈ acc, SzR x)) (q_.1) (q_.2.1) (q_.2.2.1) (q_.2.2.2.1) (q_.2.2.2.2))
    (fun (q_ : Nat × (List Rec) × (Option Addr) × Nat × Bool) => (fun (i : Nat) (acc : List Rec) (acc_a : Option Addr) (acc_c : Nat) (bad : Bool) => (rallS s 1).length - i) (q_.1) (q_.2.1) (q_.2.2.1) (q_.2.2.2.1) (q_.2.2.2.2)) (0, ([] : List Rec), none, 0, (false || rallB s 1)) ?_ ?_ ?_
  · exact ⟨rfl, rfl, rfl, rfl, (by first | rfl | (apply congrArg (Value.int .i64); omega) | simp), trivial⟩
  · exact ⟨h6, Hp.le_refl _, hS15, (by first | assumption | omega | simp), (by rw [Bool.false_or]; rfl), (by first | assumption | omega | simp), (by exact fun x hx => by cases hx)⟩
  · rintro ⟨i, acc, acc_a, acc_c, bad⟩ r20 w17 ⟨h18, hl19, hS16, f1, f2, f3, f4⟩
    try dsimp only at f1 f2 f3 f4
    refine WC.seq ?_
    refine WC.region ?_
    refine WL.val1 (R_lss (a := ((i : Nat) : Int)) (b := ((((rallS s 1)).length : Nat) : Int)) rfl rfl) ?_
    refine WL.nil ?_
    refine then_normal ?_
    refine WC.seq ?_
    refine WC.condP (((i : Nat) : Int) < ((((rallS s 1)).length : Nat) : Int)) rfl (fun c0 => ?_) (fun c0 => ?_)
    · skip
      refine WC.skip ?_
      refine then_normal ?_
      refine WC.seq ?_
      refine WC.block ?_
      refine WC.seq ?_
      refine WC.region ?_
      refine WL.val1 (R_move (v := .int .i64 (((i : Nat) : Int))) rfl) ?_
      obtain ⟨z_rallS_s_1_i, hz_rallS_s_1_i⟩ : ∃ z, ((rallS s 1))[i]? = some z := ⟨_, List.getElem?_eq_getElem (by omega)⟩
      obtain ⟨b21, o22, cs26, ha23, hr24, hat25⟩ := (hf13.mono hl19).2 i z_rallS_s_1_i hz_rallS_s_1_i
      subst hr24
      have hb_rallS_s_1_i := hb.1 z_rallS_s_1_i (List.mem_of_getElem? hz_rallS_s_1_i)
      refine WL.val1 (R_indexAddrE (i := ((i : Nat) : Int)) (m := i) ha23 rfl rfl Tryd.underlying24 (Tryd.sizeOf9 _) (by first | rfl | (omega)) (by omega)) ?_
      refine WL.val1 (R_loadC (v := .string (B (z_rallS_s_1_i))) hS16 rfl hat25 Tryd.isAgg9 rfl) ?_
      refine WL.val1 (R_assign (v := .int .i64 (((i : Nat) : Int))) rfl) ?_
      refine WL.val1 (R_assign (v := .string (B (z_rallS_s_1_i))) rfl) ?_
      refine WL.nil ?_
      refine then_normal ?_
      refine WC.seq ?_
      refine WC.region ?_
      refine WL.val1 (R_move (v := .int .i64 (((i : Nat) : Int))) rfl) ?_
      refine WL.val1 (R_gtr (a := ((i : Nat) : Int)) (b := 0) rfl rfl) ?_
      refine WL.nil ?_
      refine then_normal ?_
      refine WC.condP (0 < ((i : Nat) : Int)) rfl (fun c1 => ?_) (fun c1 => ?_)
      · skip
        refine WC.region ?_
        refine WL.val1 (R_move (v := .string (B (z_rallS_s_1_i))) rfl) ?_
        have hS29 : St Γ h18 (grow 35 RRec h18 (acc) (acc_a) (acc_c) :: emp :: row (w.heap.size) [.bool (bad), .slice (acc_a) (acc).length (acc_c)] 81 :: L) w17 := hS16.front (i := 0) rfl
        have hS30 : St Γ h18 (row (w.heap.size) [.bool (bad), .slice (acc_a) (acc).length (acc_c)] 81 :: grow 35 RRec h18 (acc) (acc_a) (acc_c) :: emp :: emp :: L) w17 := hS29.front (i := 2) rfl
        refine S_callL (vs := [.pointer (some ⟨w.heap.size, 0, none⟩), .string (B (z_rallS_s_1_i))]) (A := fun hh_ => [row (w.heap.size) [.bool (bad), .slice (acc_a) (acc).length (acc_c)] 81, grow 35 RRec hh_ (acc) (acc_a) (acc_c)]) (L := emp :: emp :: L) hS30 Tryd.call37 rfl (rec_take (w.heap.size) (bad) (acc) (acc_a) (acc_c) (z_rallS_s_1_i) (by first | assumption | omega | exact (by decide) | exact ⟨by omega, f4⟩ | (have := hb_rallS_s_1_i; omega)) (by first | assumption | omega | exact (by decide) | exact ⟨by omega, f4⟩ | (have := hb_rallS_s_1_i; omega))) trivial ?_
        intro h31 A33 v34 w28 hl32 hp35 hS27
        obtain ⟨a236, c237, rfl, rfl⟩ := hp35
        have hS27 : St Γ h31 (row (w.heap.size) [.bool ((takeS bad acc z_rallS_s_1_i).1), .slice (a236) ((takeS bad acc z_rallS_s_1_i).2).length (c237)] 81 :: grow 35 RRec h31 ((takeS bad acc z_rallS_s_1_i).2) (a236) (c237) :: emp :: emp :: L) w28 := hS27
        have hS38 : St Γ h31 (grow 35 RRec h31 ((takeS bad acc z_rallS_s_1_i).2) (a236) (c237) :: emp :: row (w.heap.size) [.bool ((takeS bad acc z_rallS_s_1_i).1), .slice (a236) ((takeS bad acc z_rallS_s_1_i).2).length (c237)] 81 :: L) w28 := St.back (L := grow 35 RRec h31 ((takeS bad acc z_rallS_s_1_i).2) (a236) (c237) :: emp :: row (w.heap.size) [.bool ((takeS bad acc z_rallS_s_1_i).1), .slice (a236) ((takeS bad acc z_rallS_s_1_i).2).length (c237)] 81 :: L) (i := 2) hS27 rfl
        have hS39 : St Γ h31 (grow 35 RRec h31 ((takeS bad acc z_rallS_s_1_i).2) (a236) (c237) :: row (w.heap.size) [.bool ((takeS bad acc z_rallS_s_1_i).1), .slice (a236) ((takeS bad acc z_rallS_s_1_i).2).length (c237)] 81 :: L) w28 := St.back (L := grow 35 RRec h31 ((takeS bad acc z_rallS_s_1_i).2) (a236) (c237) :: row (w.heap.size) [.bool ((takeS bad acc z_rallS_s_1_i).1), .slice (a236) ((takeS bad acc z_rallS_s_1_i).2).length (c237)] 81 :: L) (i := 0) hS38 rfl
        refine WL.nil ?_
        refine block_normal ?_
        refine then_normal ?_
        refine WC.region ?_
        refine WL.val1 (R_add_i (a := ((i : Nat) : Int)) (b := 1) rfl rfl (by omega)) ?_
        refine WL.val1 (R_move (v := .int .i64 ((((i : Nat) : Int) + 1))) rfl) ?_
        refine WL.nil ?_
        refine then_normal ?_
        exact ⟨(i + 1, (takeS bad acc z_rallS_s_1_i).2, a236, c237, (takeS bad acc z_rallS_s_1_i).1), ⟨rfl, rfl, rfl, rfl, (by first | rfl | (apply congrArg (Value.int .i64); omega) | simp), trivial⟩, ⟨h31, (hl19.trans hl32), hS39, (by (try dsimp only); first | assumption | omega | simp), (by (try dsimp only); first | (rw [← f2, takes_step hz_rallS_s_1_i (by omega)]; done) | (rw [← f2, show max 1 (i + 1) = max 1 i by omega]; done)), (by (try dsimp only); first | omega | (have := takeS_len z_rallS_s_1_i bad acc; omega)), (by (try dsimp only); first | exact f4 | exact takeS_sz (by have := hb_rallS_s_1_i; omega) f4)⟩, (by first | (simp only []; omega) | (simp; omega))⟩
      · skip
        refine WC.skip ?_
        refine block_normal ?_
        refine then_normal ?_
        refine WC.region ?_
        refine WL.val1 (R_add_i (a := ((i : Nat) : Int)) (b := 1) rfl rfl (by omega)) ?_
        refine WL.val1 (R_move (v := .int .i64 ((((i : Nat) : Int) + 1))) rfl) ?_
        refine WL.nil ?_
        refine then_normal ?_
        exact ⟨(i + 1, acc, acc_a, acc_c, bad), ⟨rfl, rfl, rfl, rfl, (by first | rfl | (apply congrArg (Value.int .i64); omega) | simp), trivial⟩, ⟨h18, hl19, hS16, (by (try dsimp only); first | assumption | omega | simp), (by (try dsimp only); first | (rw [← f2, takes_step hz_rallS_s_1_i (by omega)]; done) | (rw [← f2, show max 1 (i + 1) = max 1 i by omega]; done)), (by (try dsimp only); first | omega | (have := takeS_len z_rallS_s_1_i bad acc; omega)), (by (try dsimp only); first | exact f4 | exact takeS_sz (by have := hb_rallS_s_1_i; omega) f4)⟩, (by first | (simp only []; omega) | (simp; omega))⟩
    · skip
      refine WC.exit ?_
      refine then_exit ?_
      refine then_exit ?_
      refine block_exit ?_
      refine then_normal ?_
      refine WC.seq ?_
      refine WC.seq ?_
      have f5 : takesS s = (bad, acc) := by rw [← f2, takes_end (by omega)]
      refine WC.region ?_
      refine WL.val1 (R_fieldAddr (b := w.heap.size) (off := 0) (m := 0) rfl (fun _ => by kernel_rfl)) ?_
      refine WL.val1 (R_fieldAddr (b := w.heap.size) (off := 0) (m := 0) rfl (fun _ => by kernel_rfl)) ?_
      refine WL.val1 (R_load (v := .bool (bad)) rfl (hS16.has (i := 1) rfl) (Tryd.isAgg4 _) rfl) ?_
      refine WL.nil ?_
      refine then_normal ?_
      refine WC.condI ((bad) = true) (b := bad) rfl Iff.rfl (fun c2 => ?_) (fun c2 => ?_)
      · skip
        refine WC.seq ?_
        refine WC.region ?_
        refine WL.val1 (R_assign (v := .slice none 0 0) rfl) ?_
        refine WL.val1 (R_assign (v := .int .i64 (5)) rfl) ?_
        refine WL.nil ?_
        refine then_normal ?_
        refine WC.ret ?_
        refine then_ret ?_
        refine top_ret (.tuple #[.slice none 0 0, .int .i64 (5)]) (gives2 rfl rfl rfl) ?_
        have e_ : decTake s = ([], 5) := by rw [decTake, f5, if_pos (by simpa using c2)]
        exact ⟨h18, (hl7.trans hl19), ⟨none, 0, (by first | rfl | (rw [e_]; done) | (rw [e_]; rfl) | (simp; done)), (by first | exact Sl.nil _ _ _ _ | (rw [e_]; exact Sl.nil _ _ _ _))⟩, hS16.pop.pop⟩
      · skip
        refine WC.skip ?_
        refine then_normal ?_
        refine WC.seq ?_
        refine WC.seq ?_
        obtain ⟨h40, hl41, hs42, hS43⟩ := hS16.growCommit (i := 0) rfl (Hp.le_refl _)
        refine WC.region ?_
        refine WL.val1 (R_fieldAddr (b := w.heap.size) (off := 0) (m := 1) rfl (fun _ => by kernel_rfl)) ?_
        refine WL.val1 (R_load (v := .slice (acc_a) (acc).length (acc_c)) rfl (hS43.has (i := 1) rfl) (Tryd.isAgg22 _) rfl) ?_
        refine S_callP (vs := [.slice (acc_a) (acc).length (acc_c)]) hS43 Tryd.call25 rfl (rec_Encode (acc) (acc_a) (acc_c) (by first | assumption | omega | exact (by decide) | exact ⟨by omega, f4⟩ | (have := hb_rallS_s_1_i; omega))) hs42 ?_
        intro w45 hS44
        refine WL.val1 (R_move (v := .tuple #[.string (B ((encS acc).1)), .int .i64 ((encS acc).2)]) rfl) ?_
        refine WL.val1 (R_extract (vs := ([.string (B ((encS acc).1)), .int .i64 ((encS acc).2)] : List Value).toArray) (v := .string (B ((encS acc).1))) rfl rfl) ?_
        refine WL.val1 (R_extract (vs := ([.string (B ((encS acc).1)), .int .i64 ((encS acc).2)] : List Value).toArray) (v := .int .i64 ((encS acc).2)) rfl rfl) ?_
        refine WL.val1 (R_assign (v := .string (B ((encS acc).1))) rfl) ?_
        refine WL.val1 (R_assign (v := .int .i64 ((encS acc).2)) rfl) ?_
        refine WL.nil ?_
        refine then_normal ?_
        refine WC.seq ?_
        refine WC.region ?_
        refine WL.val1 (R_move (v := .int .i64 ((encS acc).2)) rfl) ?_
        refine WL.val1 (R_neq (a := (encS acc).2) (b := 0) rfl rfl) ?_
        refine WL.val1 (R_move (v := .bool (decide ((encS acc).2 ≠ 0))) rfl) ?_
        refine WL.gpure (gd := (!(decide ((encS acc).2 ≠ 0)))) (yl_f (d := 36) rfl rfl) (fun hg => R_move (v := .string (B ((encS acc).1))) rfl) ?_
        refine WL.gpure (gd := (!(decide ((encS acc).2 ≠ 0)))) (yl_f (d := 36) rfl rfl) (fun hg => R_move (v := .string (B (s))) rfl) ?_
        refine WL.gpure (gd := (!(decide ((encS acc).2 ≠ 0)))) (yl_f (d := 36) rfl rfl) (fun hg => R_sneq (a := (encS acc).1) (b := s) (gvT hg rfl) (gvT hg rfl)) ?_
        refine WL.val1 (R_or (cb := decide ((encS acc).2 ≠ 0)) (yb := decide ((encS acc).1 ≠ s)) rfl rfl rfl) ?_
        refine WL.nil ?_
        refine then_normal ?_
        refine WC.condI (((encS acc).2 ≠ 0 ∨ (encS acc).1 ≠ s)) (b := (decide ((encS acc).2 ≠ 0) || decide ((encS acc).1 ≠ s))) rfl (b_or b_dec b_dec) (fun c3 => ?_) (fun c3 => ?_)
        · skip
          refine WC.seq ?_
          refine WC.region ?_
          refine WL.val1 (R_assign (v := .slice none 0 0) rfl) ?_
          refine WL.val1 (R_assign (v := .int .i64 (5)) rfl) ?_
          refine WL.nil ?_
          refine then_normal ?_
          refine WC.ret ?_
          refine then_ret ?_
          refine top_ret (.tuple #[.slice none 0 0, .int .i64 (5)]) (gives2 rfl rfl rfl) ?_
          have e_ : decTake s = ([], 5) := by rw [decTake, f5, if_neg (by simpa using c2), if_pos c3]
          exact ⟨h40, ((hl7.trans hl19).trans hl41), ⟨none, 0, (by first | rfl | (rw [e_]; done) | (rw [e_]; rfl) | (simp; done)), (by first | exact Sl.nil _ _ _ _ | (rw [e_]; exact Sl.nil _ _ _ _))⟩, hS44.pop.pop⟩
        · skip
          refine WC.skip ?_
          refine then_normal ?_
          refine WC.seq ?_
          refine WC.region ?_
          refine WL.val1 (R_fieldAddr (b := w.heap.size) (off := 0) (m := 1) rfl (fun _ => by kernel_rfl)) ?_
          refine WL.val1 (R_load (v := .slice (acc_a) (acc).length (acc_c)) rfl (hS44.has (i := 1) rfl) (Tryd.isAgg22 _) rfl) ?_
          refine WL.val1 (R_assign (v := .slice (acc_a) (acc).length (acc_c)) rfl) ?_
          refine WL.val1 (R_assign (v := .int .i64 (0)) rfl) ?_
          refine WL.nil ?_
          refine then_normal ?_
          refine WC.ret ?_
          refine top_ret (.tuple #[.slice (acc_a) (acc).length (acc_c), .int .i64 (0)]) (gives2 rfl rfl rfl) ?_
          have e_ : decTake s = (acc, 0) := by rw [decTake, f5, if_neg (by simpa using c2), if_neg c3]
          exact ⟨h40, ((hl7.trans hl19).trans hl41), ⟨acc_a, acc_c, (by first | rfl | (rw [e_]; done) | (rw [e_]; rfl) | (simp; done)), (by first | exact hs42 | (rw [e_]; exact hs42))⟩, hS44.pop.pop⟩
set_option maxHeartbeats 400000 in
theorem ref20_Same (a : List Rec) (a_a : Option Addr) (a_c : Nat) (b : List Rec) (b_a : Option Addr) (b_c : Nat) (hza : SzL a) (hzb : SzL b) : PureC GG Tryd.prog 13 (fun h => Sl RRec2 h a a_a a_c ∧ Sl RRec2 h b b_a b_c) [.slice (a_a) (a).length (a_c), .slice (b_a) (b).length (b_c)] (.bool (sameS a b)) := by
  intro Γ h L w hpre hS
  obtain ⟨sl_a, sl_b⟩ := hpre
  have hla := hza.1
  have hlb := hzb.1
  have hpa := fun x hx => (hza.2 x hx).pieces
  have hpb := fun x hx => (hzb.2 x hx).pieces
  refine Ret.body Tryd.func13 rfl Tryd.ntmps13 (Nat.le_of_ble_eq_true rfl) ?_
  refine WC.seq ?_
  refine WC.region ?_
  refine WL.val1 (R_assign (v := .bool (false)) rfl) ?_
  refine WL.nil ?_
  refine then_normal ?_
  refine WC.seq ?_
  refine WC.seq ?_
  refine WC.region ?_
  refine WL.val1 (R_move (v := .slice (a_a) (a).length (a_c)) rfl) ?_
  refine WL.val1 (R_len_slice (n := (a).length) rfl Tryd.underlying39) ?_
  refine WL.val1 (R_move (v := .slice (b_a) (b).length (b_c)) rfl) ?_
  refine WL.val1 (R_len_slice (n := (b).length) rfl Tryd.underlying39) ?_
  refine WL.val1 (R_neq (a := (((a).length : Nat) : Int)) (b := (((b).length : Nat) : Int)) rfl rfl) ?_
  refine WL.nil ?_
  refine then_normal ?_
  refine WC.condP ((((a).length : Nat) : Int) ≠ (((b).length : Nat) : Int)) rfl (fun c0 => ?_) (fun c0 => ?_)
  · skip
    refine WC.seq ?_
    refine WC.region ?_
    refine WL.val1 (R_assign (v := .bool (false)) rfl) ?_
    refine WL.nil ?_
    refine then_normal ?_
    refine WC.ret ?_
    refine then_ret ?_
    refine top_ret (.bool (false)) (gives1 rfl rfl) ?_
    exact ⟨(by apply congrArg Value.bool; rw [sameS, decide_eq_false (by omega)]; rfl), hS⟩
  · skip
    refine WC.skip ?_
    refine then_normal ?_
    refine WC.seq ?_
    refine WC.seq ?_
    refine WC.region ?_
    refine WL.val1 (R_assign (v := .int .i64 (0)) rfl) ?_
    refine WL.nil ?_
    refine then_normal ?_
    refine WC.block ?_
    refine WC.loopL (σ := Nat)
      (fun (q_ : Nat) => (fun (i : Nat) => [(0, .slice (a_a) (a).length (a_c)), (1, .slice (b_a) (b).length (b_c)), (5, .int .i64 (((i : Nat) : Int)))]) (q_))
      (fun (q_ : Nat) (w_ : World) => (fun (i : Nat) => ∃ h3 : Hp, h.le h3 ∧ St Γ h3 (L) w_ ∧ (i ≤ a.length) ∧ (((a.zip b).drop i).all (fun p => sameRec p.1 p.2) = sameS a b)) (q_))
      (fun (q_ : Nat) => (fun (i : Nat) => a.length - i) (q_)) (0) ?_ ?_ ?_
    · exact ⟨rfl, rfl, (by first | rfl | (apply congrArg (Value.int .i64); omega) | simp), trivial⟩
    · exact ⟨h, Hp.le_refl _, hS, (by first | assumption | omega | simp), (by rw [sameS, decide_eq_true (by omega), Bool.true_and]; rfl)⟩
    · rintro i r5 w2 ⟨h3, hl4, hS1, f1, f2⟩
      try dsimp only at f1 f2
      refine WC.seq ?_
      refine WC.seq ?_
      refine WC.region ?_
      refine WL.val1 (R_move (v := .int .i64 (((i : Nat) : Int))) rfl) ?_
      refine WL.val1 (R_move (v := .slice (a_a) (a).length (a_c)) rfl) ?_
      refine WL.val1 (R_len_slice (n := (a).length) rfl Tryd.underlying39) ?_
      refine WL.val1 (R_lss (a := ((i : Nat) : Int)) (b := (((a).length : Nat) : Int)) rfl rfl) ?_
      refine WL.nil ?_
      refine then_normal ?_
      refine WC.condP (((i : Nat) : Int) < (((a).length : Nat) : Int)) rfl (fun c1 => ?_) (fun c1 => ?_)
      · skip
        refine WC.skip ?_
        refine then_normal ?_
        refine WC.seq ?_
        refine WC.block ?_
        refine WC.seq ?_
        refine WC.seq ?_
        obtain ⟨z_a_i, hz_a_i⟩ : ∃ z, (a)[i]? = some z := ⟨_, List.getElem?_eq_getElem (by omega)⟩
        obtain ⟨b18, o19, cs23, ha20, hr21, hat22⟩ := (sl_a.mono hl4).2 i z_a_i hz_a_i
        obtain ⟨a24, c25, a26, c27, rfl, hs28, hs29⟩ := hr21
        have hb_a_i := hpa z_a_i (List.mem_of_getElem? hz_a_i)
        obtain ⟨z_b_i, hz_b_i⟩ : ∃ z, (b)[i]? = some z := ⟨_, List.getElem?_eq_getElem (by omega)⟩
        obtain ⟨b50, o51, cs55, ha52, hr53, hat54⟩ := (sl_b.mono hl4).2 i z_b_i hz_b_i
        obtain ⟨a56, c57, a58, c59, rfl, hs60, hs61⟩ := hr53
        have hb_b_i := hpb z_b_i (List.mem_of_getElem? hz_b_i)
        refine WC.draw 38 [(0, .slice (a_a) (a).length (a_c)), (1, .slice (b_a) (b).length (b_c)), (5, .int .i64 (((i : Nat) : Int)))] ((fun _ v => v = .slice (a_a) (a).length (a_c)) :: (fun _ v => v = .int .i64 (((i : Nat) : Int))) :: (fun _ v => v = .pointer (some ⟨b18, (o19 + i * RRec2.n), none⟩)) :: (fun _ v => v = .pointer (some ⟨b18, (o19 + i * RRec2.n), none⟩)) :: (fun _ v => v = .string (B (z_a_i.name))) :: (fun _ v => v = .slice (b_a) (b).length (b_c)) :: (fun _ v => v = .int .i64 (((i : Nat) : Int))) :: (fun _ v => v = .pointer (some ⟨b50, (o51 + i * RRec2.n), none⟩)) :: (fun _ v => v = .pointer (some ⟨b50, (o51 + i * RRec2.n), none⟩)) :: (fun _ v => v = .string (B (z_b_i.name))) :: (fun _ v => v = .bool (decide (z_a_i.name ≠ z_b_i.name))) :: (fun _ v => v = .bool (decide (z_a_i.name ≠ z_b_i.name))) :: (fun _ v => v = gv ((!(decide (z_a_i.name ≠ z_b_i.name)))) (.slice (a_a) (a).length (a_c))) :: (fun _ v => v = gv ((!(decide (z_a_i.name ≠ z_b_i.name)))) (.int .i64 (((i : Nat) : Int)))) :: (fun _ v => v = gv ((!(decide (z_a_i.name ≠ z_b_i.name)))) (.pointer (some ⟨b18, (o19 + i * RRec2.n), none⟩))) :: (fun _ v => v = gv ((!(decide (z_a_i.name ≠ z_b_i.name)))) (.pointer (some ⟨b18, (o19 + i * RRec2.n) + 1, none⟩))) :: (fun _ v => v = gv ((!(decide (z_a_i.name ≠ z_b_i.name)))) (.slice (a24) (z_a_i.seens).length (c25))) :: (fun _ v => v = gv ((!(decide (z_a_i.name ≠ z_b_i.name)))) (.slice (b_a) (b).length (b_c))) :: (fun _ v => v = gv ((!(decide (z_a_i.name ≠ z_b_i.name)))) (.int .i64 (((i : Nat) : Int)))) :: (fun _ v => v = gv ((!(decide (z_a_i.name ≠ z_b_i.name)))) (.pointer (some ⟨b50, (o51 + i * RRec2.n), none⟩))) :: (fun _ v => v = gv ((!(decide (z_a_i.name ≠ z_b_i.name)))) (.pointer (some ⟨b50, (o51 + i * RRec2.n) + 1, none⟩))) :: (fun _ v => v = gv ((!(decide (z_a_i.name ≠ z_b_i.name)))) (.slice (a56) (z_b_i.seens).length (c57))) :: (fun _ v => v = gv ((!(decide (z_a_i.name ≠ z_b_i.name)))) (.bool (sameSeens z_a_i.seens z_b_i.seens))) :: (fun _ v => v = gv ((!(decide (z_a_i.name ≠ z_b_i.name)))) (.bool ((!(sameSeens z_a_i.seens z_b_i.seens))))) :: (fun _ v => v = .bool ((decide (z_a_i.name ≠ z_b_i.name) || (!(sameSeens z_a_i.seens z_b_i.seens))))) :: (fun _ v => v = .bool ((decide (z_a_i.name ≠ z_b_i.name) || (!(sameSeens z_a_i.seens z_b_i.seens))))) :: (fun _ v => v = gv ((!((decide (z_a_i.name ≠ z_b_i.name) || (!(sameSeens z_a_i.seens z_b_i.seens)))))) (.slice (a_a) (a).length (a_c))) :: (fun _ v => v = gv ((!((decide (z_a_i.name ≠ z_b_i.name) || (!(sameSeens z_a_i.seens z_b_i.seens)))))) (.int .i64 (((i : Nat) : Int)))) :: (fun _ v => v = gv ((!((decide (z_a_i.name ≠ z_b_i.name) || (!(sameSeens z_a_i.seens z_b_i.seens)))))) (.pointer (some ⟨b18, (o19 + i * RRec2.n), none⟩))) :: (fun _ v => v = gv ((!((decide (z_a_i.name ≠ z_b_i.name) || (!(sameSeens z_a_i.seens z_b_i.seens)))))) (.pointer (some ⟨b18, (o19 + i * RRec2.n) + 2, none⟩))) :: (fun _ v => v = gv ((!((decide (z_a_i.name ≠ z_b_i.name) || (!(sameSeens z_a_i.seens z_b_i.seens)))))) (.slice (a26) (z_a_i.files).length (c27))) :: (fun _ v => v = gv ((!((decide (z_a_i.name ≠ z_b_i.name) || (!(sameSeens z_a_i.seens z_b_i.seens)))))) (.int .i64 ((((z_a_i.files).length : Nat) : Int)))) :: (fun _ v => v = gv ((!((decide (z_a_i.name ≠ z_b_i.name) || (!(sameSeens z_a_i.seens z_b_i.seens)))))) (.slice (b_a) (b).length (b_c))) :: (fun _ v => v = gv ((!((decide (z_a_i.name ≠ z_b_i.name) || (!(sameSeens z_a_i.seens z_b_i.seens)))))) (.int .i64 (((i : Nat) : Int)))) :: (fun _ v => v = gv ((!((decide (z_a_i.name ≠ z_b_i.name) || (!(sameSeens z_a_i.seens z_b_i.seens)))))) (.pointer (some ⟨b50, (o51 + i * RRec2.n), none⟩))) :: (fun _ v => v = gv ((!((decide (z_a_i.name ≠ z_b_i.name) || (!(sameSeens z_a_i.seens z_b_i.seens)))))) (.pointer (some ⟨b50, (o51 + i * RRec2.n) + 2, none⟩))) :: (fun _ v => v = gv ((!((decide (z_a_i.name ≠ z_b_i.name) || (!(sameSeens z_a_i.seens z_b_i.seens)))))) (.slice (a58) (z_b_i.files).length (c59))) :: (fun _ v => v = gv ((!((decide (z_a_i.name ≠ z_b_i.name) || (!(sameSeens z_a_i.seens z_b_i.seens)))))) (.int .i64 ((((z_b_i.files).length : Nat) : Int)))) :: []) hS1 (by kernel_rfl) (by kernel_rfl) (MonoFs.pure (MonoFs.pure (MonoFs.pure (MonoFs.pure (MonoFs.pure (MonoFs.pure (MonoFs.pure (MonoFs.pure (MonoFs.pure (MonoFs.pure (MonoFs.pure (MonoFs.pure (MonoFs.pure (MonoFs.pure (MonoFs.pure (MonoFs.pure (MonoFs.pure (MonoFs.pure (MonoFs.pure (MonoFs.pure (MonoFs.pure (MonoFs.pure (MonoFs.pure (MonoFs.pure (MonoFs.pure (MonoFs.pure (MonoFs.pure (MonoFs.pure (MonoFs.pure (MonoFs.pure (MonoFs.pure (MonoFs.pure (MonoFs.pure (MonoFs.pure (MonoFs.pure (MonoFs.pure (MonoFs.pure (MonoFs.pure MonoFs.nil)))))))))))))))))))))))))))))))))))))) ⟨rfl, rfl, rfl, trivial⟩ ⟨?_, ?_, ?_, ?_, ?_, ?_, ?_, ?_, ?_, ?_, ?_, ?_, ?_, ?_, ?_, ?_, ?_, ?_, ?_, ?_, ?_, ?_, ?_, ?_, ?_, ?_, ?_, ?_, ?_, ?_, ?_, ?_, ?_, ?_, ?_, ?_, ?_, ?_, trivial⟩ ?_
        · intro r_ w185 h186 hl187 hS184 hb_ hp_
          obtain ⟨b0_, b1_, b2_, _⟩ := hb_
          refine WL.val1 (R_move (v := .slice (a_a) (a).length (a_c)) b0_) ?_
          refine WL.nil ?_
          exact ⟨rfl, _, _, rfl, (Hp.le_refl _), rfl, hS184⟩
        · intro r_ w189 h190 hl191 hS188 hb_ hp_
          obtain ⟨b0_, b1_, b2_, _⟩ := hb_
          refine WL.val1 (R_move (v := .int .i64 (((i : Nat) : Int))) b2_) ?_
          refine WL.nil ?_
          exact ⟨rfl, _, _, rfl, (Hp.le_refl _), rfl, hS188⟩
        · intro r_ w193 h194 hl195 hS192 hb_ hp_
          obtain ⟨b0_, b1_, b2_, _⟩ := hb_
          obtain ⟨p0_, p1_, _⟩ := hp_
          have p0_ : r_ 18 = .slice (a_a) (a).length (a_c) := p0_
          have p1_ : r_ 19 = .int .i64 (((i : Nat) : Int)) := p1_
          refine WL.val1 (R_indexAddrE (i := ((i : Nat) : Int)) (m := i) ha20 p0_ p1_ Tryd.underlying39 (Tryd.sizeOf38 _) (by first | rfl | (omega)) (by omega)) ?_
          refine WL.nil ?_
          exact ⟨rfl, _, _, rfl, (Hp.le_refl _), rfl, hS192⟩
        · intro r_ w197 h198 hl199 hS196 hb_ hp_
          obtain ⟨b0_, b1_, b2_, _⟩ := hb_
          obtain ⟨p0_, _⟩ := hp_
          have p0_ : r_ 20 = .pointer (some ⟨b18, (o19 + i * RRec2.n), none⟩) := p0_
          refine WL.val1 (R_fieldAddr (b := b18) (off := (o19 + i * RRec2.n)) (m := 0) p0_ (fun _ => by kernel_rfl)) ?_
          refine WL.nil ?_
          exact ⟨rfl, _, _, rfl, (Hp.le_refl _), rfl, hS196⟩
        · intro r_ w201 h202 hl203 hS200 hb_ hp_
          obtain ⟨b0_, b1_, b2_, _⟩ := hb_
          obtain ⟨p0_, _⟩ := hp_
          have p0_ : r_ 21 = .pointer (some ⟨b18, (o19 + i * RRec2.n), none⟩) := p0_
          refine WL.val1 (R_loadC (v := .string (B (z_a_i.name))) hS200 p0_ ((hat22.mono hl203).sub 0 1 (cs' := [.string (B (z_a_i.name))]) rfl) Tryd.isAgg9 rfl) ?_
          refine WL.nil ?_
          exact ⟨rfl, _, _, rfl, (Hp.le_refl _), rfl, hS200⟩
        · intro r_ w205 h206 hl207 hS204 hb_ hp_
          obtain ⟨b0_, b1_, b2_, _⟩ := hb_
          refine WL.val1 (R_move (v := .slice (b_a) (b).length (b_c)) b1_) ?_
          refine WL.nil ?_
          exact ⟨rfl, _, _, rfl, (Hp.le_refl _), rfl, hS204⟩
        · intro r_ w209 h210 hl211 hS208 hb_ hp_
          obtain ⟨b0_, b1_, b2_, _⟩ := hb_
          refine WL.val1 (R_move (v := .int .i64 (((i : Nat) : Int))) b2_) ?_
          refine WL.nil ?_
          exact ⟨rfl, _, _, rfl, (Hp.le_refl _), rfl, hS208⟩
        · intro r_ w213 h214 hl215 hS212 hb_ hp_
          obtain ⟨b0_, b1_, b2_, _⟩ := hb_
          obtain ⟨p0_, p1_, _⟩ := hp_
          have p0_ : r_ 23 = .slice (b_a) (b).length (b_c) := p0_
          have p1_ : r_ 24 = .int .i64 (((i : Nat) : Int)) := p1_
          refine WL.val1 (R_indexAddrE (i := ((i : Nat) : Int)) (m := i) ha52 p0_ p1_ Tryd.underlying39 (Tryd.sizeOf38 _) (by first | rfl | (omega)) (by omega)) ?_
          refine WL.nil ?_
          exact ⟨rfl, _, _, rfl, (Hp.le_refl _), rfl, hS212⟩
        · intro r_ w217 h218 hl219 hS216 hb_ hp_
          obtain ⟨b0_, b1_, b2_, _⟩ := hb_
          obtain ⟨p0_, _⟩ := hp_
          have p0_ : r_ 25 = .pointer (some ⟨b50, (o51 + i * RRec2.n), none⟩) := p0_
          refine WL.val1 (R_fieldAddr (b := b50) (off := (o51 + i * RRec2.n)) (m := 0) p0_ (fun _ => by kernel_rfl)) ?_
          refine WL.nil ?_
          exact ⟨rfl, _, _, rfl, (Hp.le_refl _), rfl, hS216⟩
        · intro r_ w221 h222 hl223 hS220 hb_ hp_
          obtain ⟨b0_, b1_, b2_, _⟩ := hb_
          obtain ⟨p0_, _⟩ := hp_
          have p0_ : r_ 26 = .pointer (some ⟨b50, (o51 + i * RRec2.n), none⟩) := p0_
          refine WL.val1 (R_loadC (v := .string (B (z_b_i.name))) hS220 p0_ ((hat54.mono hl223).sub 0 1 (cs' := [.string (B (z_b_i.name))]) rfl) Tryd.isAgg9 rfl) ?_
          refine WL.nil ?_
          exact ⟨rfl, _, _, rfl, (Hp.le_refl _), rfl, hS220⟩
        · intro r_ w225 h226 hl227 hS224 hb_ hp_
          obtain ⟨b0_, b1_, b2_, _⟩ := hb_
          obtain ⟨p0_, p1_, _⟩ := hp_
          have p0_ : r_ 22 = .string (B (z_a_i.name)) := p0_
          have p1_ : r_ 27 = .string (B (z_b_i.name)) := p1_
          refine WL.val1 (R_sneq (a := z_a_i.name) (b := z_b_i.name) p0_ p1_) ?_
          refine WL.nil ?_
          exact ⟨rfl, _, _, rfl, (Hp.le_refl _), rfl, hS224⟩
        · intro r_ w229 h230 hl231 hS228 hb_ hp_
          obtain ⟨b0_, b1_, b2_, _⟩ := hb_
          obtain ⟨p0_, _⟩ := hp_
          have p0_ : r_ 28 = .bool (decide (z_a_i.name ≠ z_b_i.name)) := p0_
          refine WL.val1 (R_move (v := .bool (decide (z_a_i.name ≠ z_b_i.name))) p0_) ?_
          refine WL.nil ?_
          exact ⟨rfl, _, _, rfl, (Hp.le_refl _), rfl, hS228⟩
        · intro r_ w233 h234 hl235 hS232 hb_ hp_
          obtain ⟨b0_, b1_, b2_, _⟩ := hb_
          obtain ⟨p0_, _⟩ := hp_
          have p0_ : r_ 29 = .bool (decide (z_a_i.name ≠ z_b_i.name)) := p0_
          refine WL.gpure (gd := (!(decide (z_a_i.name ≠ z_b_i.name)))) (yl_f (d := 29) rfl p0_) (fun hg => R_move (v := .slice (a_a) (a).length (a_c)) b0_) ?_
          refine WL.nil ?_
          exact ⟨rfl, _, _, rfl, (Hp.le_refl _), rfl, hS232⟩
        · intro r_ w237 h238 hl239 hS236 hb_ hp_
          obtain ⟨b0_, b1_, b2_, _⟩ := hb_
          obtain ⟨p0_, _⟩ := hp_
          have p0_ : r_ 29 = .bool (decide (z_a_i.name ≠ z_b_i.name)) := p0_
          refine WL.gpure (gd := (!(decide (z_a_i.name ≠ z_b_i.name)))) (yl_f (d := 29) rfl p0_) (fun hg => R_move (v := .int .i64 (((i : Nat) : Int))) b2_) ?_
          refine WL.nil ?_
          exact ⟨rfl, _, _, rfl, (Hp.le_refl _), rfl, hS236⟩
        · intro r_ w241 h242 hl243 hS240 hb_ hp_
          obtain ⟨b0_, b1_, b2_, _⟩ := hb_
          obtain ⟨p0_, p1_, p2_, _⟩ := hp_
          have p0_ : r_ 30 = gv ((!(decide (z_a_i.name ≠ z_b_i.name)))) (.slice (a_a) (a).length (a_c)) := p0_
          have p1_ : r_ 31 = gv ((!(decide (z_a_i.name ≠ z_b_i.name)))) (.int .i64 (((i : Nat) : Int))) := p1_
          have p2_ : r_ 29 = .bool (decide (z_a_i.name ≠ z_b_i.name)) := p2_
          refine WL.gpure (gd := (!(decide (z_a_i.name ≠ z_b_i.name)))) (yl_f (d := 29) rfl p2_) (fun hg => R_indexAddrE (i := ((i : Nat) : Int)) (m := i) ha20 (gvT hg p0_) (gvT hg p1_) Tryd.underlying39 (Tryd.sizeOf38 _) (by first | rfl | (have hg_ := ((b_not b_dec)).1 hg; omega)) (by have hg_ := ((b_not b_dec)).1 hg; omega)) ?_
          refine WL.nil ?_
          exact ⟨rfl, _, _, rfl, (Hp.le_refl _), rfl, hS240⟩
        · intro r_ w245 h246 hl247 hS244 hb_ hp_
          obtain ⟨b0_, b1_, b2_, _⟩ := hb_
          obtain ⟨p0_, p1_, _⟩ := hp_
          have p0_ : r_ 32 = gv ((!(decide (z_a_i.name ≠ z_b_i.name)))) (.pointer (some ⟨b18, (o19 + i * RRec2.n), none⟩)) := p0_
          have p1_ : r_ 29 = .bool (decide (z_a_i.name ≠ z_b_i.name)) := p1_
          refine WL.gpure (gd := (!(decide (z_a_i.name ≠ z_b_i.name)))) (yl_f (d := 29) rfl p1_) (fun hg => R_fieldAddr (b := b18) (off := (o19 + i * RRec2.n)) (m := 1) (gvT hg p0_) (fun _ => by kernel_rfl)) ?_
          refine WL.nil ?_
          exact ⟨rfl, _, _, rfl, (Hp.le_refl _), rfl, hS244⟩
        · intro r_ w249 h250 hl251 hS248 hb_ hp_
          obtain ⟨b0_, b1_, b2_, _⟩ := hb_
          obtain ⟨p0_, p1_, _⟩ := hp_
          have p0_ : r_ 33 = gv ((!(decide (z_a_i.name ≠ z_b_i.name)))) (.pointer (some ⟨b18, (o19 + i * RRec2.n) + 1, none⟩)) := p0_
          have p1_ : r_ 29 = .bool (decide (z_a_i.name ≠ z_b_i.name)) := p1_
          refine WL.gpure (gd := (!(decide (z_a_i.name ≠ z_b_i.name)))) (yl_f (d := 29) rfl p1_) (fun hg => R_loadC (v := .slice (a24) (z_a_i.seens).length (c25)) hS248 (gvT hg p0_) ((hat22.mono hl251).sub 1 1 (cs' := [.slice (a24) (z_a_i.seens).length (c25)]) rfl) Tryd.isAgg28 rfl) ?_
          refine WL.nil ?_
          exact ⟨rfl, _, _, rfl, (Hp.le_refl _), rfl, hS248⟩
        · intro r_ w253 h254 hl255 hS252 hb_ hp_
          obtain ⟨b0_, b1_, b2_, _⟩ := hb_
          obtain ⟨p0_, _⟩ := hp_
          have p0_ : r_ 29 = .bool (decide (z_a_i.name ≠ z_b_i.name)) := p0_
          refine WL.gpure (gd := (!(decide (z_a_i.name ≠ z_b_i.name)))) (yl_f (d := 29) rfl p0_) (fun hg => R_move (v := .slice (b_a) (b).length (b_c)) b1_) ?_
          refine WL.nil ?_
          exact ⟨rfl, _, _, rfl, (Hp.le_refl _), rfl, hS252⟩
        · intro r_ w257 h258 hl259 hS256 hb_ hp_
          obtain ⟨b0_, b1_, b2_, _⟩ := hb_
          obtain ⟨p0_, _⟩ := hp_
          have p0_ : r_ 29 = .bool (decide (z_a_i.name ≠ z_b_i.name)) := p0_
          refine WL.gpure (gd := (!(decide (z_a_i.name ≠ z_b_i.name)))) (yl_f (d := 29) rfl p0_) (fun hg => R_move (v := .int .i64 (((i : Nat) : Int))) b2_) ?_
          refine WL.nil ?_
          exact ⟨rfl, _, _, rfl, (Hp.le_refl _), rfl, hS256⟩
        · intro r_ w261 h262 hl263 hS260 hb_ hp_
          obtain ⟨b0_, b1_, b2_, _⟩ := hb_
          obtain ⟨p0_, p1_, p2_, _⟩ := hp_
          have p0_ : r_ 35 = gv ((!(decide (z_a_i.name ≠ z_b_i.name)))) (.slice (b_a) (b).length (b_c)) := p0_
          have p1_ : r_ 36 = gv ((!(decide (z_a_i.name ≠ z_b_i.name)))) (.int .i64 (((i : Nat) : Int))) := p1_
          have p2_ : r_ 29 = .bool (decide (z_a_i.name ≠ z_b_i.name)) := p2_
          refine WL.gpure (gd := (!(decide (z_a_i.name ≠ z_b_i.name)))) (yl_f (d := 29) rfl p2_) (fun hg => R_indexAddrE (i := ((i : Nat) : Int)) (m := i) ha52 (gvT hg p0_) (gvT hg p1_) Tryd.underlying39 (Tryd.sizeOf38 _) (by first | rfl | (have hg_ := ((b_not b_dec)).1 hg; omega)) (by have hg_ := ((b_not b_dec)).1 hg; omega)) ?_
          refine WL.nil ?_
          exact ⟨rfl, _, _, rfl, (Hp.le_refl _), rfl, hS260⟩
        · intro r_ w265 h266 hl267 hS264 hb_ hp_
          obtain ⟨b0_, b1_, b2_, _⟩ := hb_
          obtain ⟨p0_, p1_, _⟩ := hp_
          have p0_ : r_ 37 = gv ((!(decide (z_a_i.name ≠ z_b_i.name)))) (.pointer (some ⟨b50, (o51 + i * RRec2.n), none⟩)) := p0_
          have p1_ : r_ 29 = .bool (decide (z_a_i.name ≠ z_b_i.name)) := p1_
          refine WL.gpure (gd := (!(decide (z_a_i.name ≠ z_b_i.name)))) (yl_f (d := 29) rfl p1_) (fun hg => R_fieldAddr (b := b50) (off := (o51 + i * RRec2.n)) (m := 1) (gvT hg p0_) (fun _ => by kernel_rfl)) ?_
          refine WL.nil ?_
          exact ⟨rfl, _, _, rfl, (Hp.le_refl _), rfl, hS264⟩
        · intro r_ w269 h270 hl271 hS268 hb_ hp_
          obtain ⟨b0_, b1_, b2_, _⟩ := hb_
          obtain ⟨p0_, p1_, _⟩ := hp_
          have p0_ : r_ 38 = gv ((!(decide (z_a_i.name ≠ z_b_i.name)))) (.pointer (some ⟨b50, (o51 + i * RRec2.n) + 1, none⟩)) := p0_
          have p1_ : r_ 29 = .bool (decide (z_a_i.name ≠ z_b_i.name)) := p1_
          refine WL.gpure (gd := (!(decide (z_a_i.name ≠ z_b_i.name)))) (yl_f (d := 29) rfl p1_) (fun hg => R_loadC (v := .slice (a56) (z_b_i.seens).length (c57)) hS268 (gvT hg p0_) ((hat54.mono hl271).sub 1 1 (cs' := [.slice (a56) (z_b_i.seens).length (c57)]) rfl) Tryd.isAgg28 rfl) ?_
          refine WL.nil ?_
          exact ⟨rfl, _, _, rfl, (Hp.le_refl _), rfl, hS268⟩
        · intro r_ w273 h274 hl275 hS272 hb_ hp_
          obtain ⟨b0_, b1_, b2_, _⟩ := hb_
          obtain ⟨p0_, p1_, p2_, p3_, _⟩ := hp_
          have p0_ : r_ 34 = gv ((!(decide (z_a_i.name ≠ z_b_i.name)))) (.slice (a24) (z_a_i.seens).length (c25)) := p0_
          have p1_ : r_ 39 = gv ((!(decide (z_a_i.name ≠ z_b_i.name)))) (.slice (a56) (z_b_i.seens).length (c57)) := p1_
          have p2_ : r_ 29 = .bool (decide (z_a_i.name ≠ z_b_i.name)) := p2_
          have p3_ : r_ 29 = .bool (decide (z_a_i.name ≠ z_b_i.name)) := p3_
          refine S_gcallP (vs := [.slice (a24) (z_a_i.seens).length (c25), .slice (a56) (z_b_i.seens).length (c57)]) (gd := (!(decide (z_a_i.name ≠ z_b_i.name)))) hS272 Tryd.call6 (yl_f (d := 29) rfl p3_) (fun hg => (hmap2 (gvT hg p0_) (gvT hg p1_))) (fun hg => (ref20_Seens (z_a_i.seens) (a24) (c25) (z_b_i.seens) (a56) (c57) (by first | assumption | omega | (have := hb_a_i.2.1.1; omega) | (have := hb_b_i.2.1.1; omega)) (by first | assumption | omega | (have := hb_a_i.2.1.1; omega) | (have := hb_b_i.2.1.1; omega)))) (fun hg => ⟨(hs28.mono hl275), (hs60.mono hl275)⟩) ?_
          intro w277 hS276
          refine WL.nil ?_
          exact ⟨rfl, _, _, rfl, (Hp.le_refl _), rfl, hS276⟩
        · intro r_ w279 h280 hl281 hS278 hb_ hp_
          obtain ⟨b0_, b1_, b2_, _⟩ := hb_
          obtain ⟨p0_, p1_, _⟩ := hp_
          have p0_ : r_ 40 = gv ((!(decide (z_a_i.name ≠ z_b_i.name)))) (.bool (sameSeens z_a_i.seens z_b_i.seens)) := p0_
          have p1_ : r_ 29 = .bool (decide (z_a_i.name ≠ z_b_i.name)) := p1_
          refine WL.gpure (gd := (!(decide (z_a_i.name ≠ z_b_i.name)))) (yl_f (d := 29) rfl p1_) (fun hg => R_not (b := sameSeens z_a_i.seens z_b_i.seens) (gvT hg p0_)) ?_
          refine WL.nil ?_
          exact ⟨rfl, _, _, rfl, (Hp.le_refl _), rfl, hS278⟩
        · intro r_ w283 h284 hl285 hS282 hb_ hp_
          obtain ⟨b0_, b1_, b2_, _⟩ := hb_
          obtain ⟨p0_, p1_, _⟩ := hp_
          have p0_ : r_ 29 = .bool (decide (z_a_i.name ≠ z_b_i.name)) := p0_
          have p1_ : r_ 41 = gv ((!(decide (z_a_i.name ≠ z_b_i.name)))) (.bool ((!(sameSeens z_a_i.seens z_b_i.seens)))) := p1_
          refine WL.val1 (R_or (cb := decide (z_a_i.name ≠ z_b_i.name)) (yb := (!(sameSeens z_a_i.seens z_b_i.seens))) p0_ rfl p1_) ?_
          refine WL.nil ?_
          exact ⟨rfl, _, _, rfl, (Hp.le_refl _), rfl, hS282⟩
        · intro r_ w287 h288 hl289 hS286 hb_ hp_
          obtain ⟨b0_, b1_, b2_, _⟩ := hb_
          obtain ⟨p0_, p1_, _⟩ := hp_
          have p0_ : r_ 42 = .bool ((decide (z_a_i.name ≠ z_b_i.name) || (!(sameSeens z_a_i.seens z_b_i.seens)))) := p0_
          have p1_ : r_ 40 = gv ((!(decide (z_a_i.name ≠ z_b_i.name)))) (.bool (sameSeens z_a_i.seens z_b_i.seens)) := p1_
          refine WL.val1 (R_move (v := .bool ((decide (z_a_i.name ≠ z_b_i.name) || (!(sameSeens z_a_i.seens z_b_i.seens))))) p0_) ?_
          refine WL.nil ?_
          exact ⟨rfl, _, _, rfl, (Hp.le_refl _), rfl, hS286⟩
        · intro r_ w291 h292 hl293 hS290 hb_ hp_
          obtain ⟨b0_, b1_, b2_, _⟩ := hb_
          obtain ⟨p0_, _⟩ := hp_
          have p0_ : r_ 43 = .bool ((decide (z_a_i.name ≠ z_b_i.name) || (!(sameSeens z_a_i.seens z_b_i.seens)))) := p0_
          refine WL.gpure (gd := (!((decide (z_a_i.name ≠ z_b_i.name) || (!(sameSeens z_a_i.seens z_b_i.seens)))))) (yl_f (d := 43) rfl p0_) (fun hg => R_move (v := .slice (a_a) (a).length (a_c)) b0_) ?_
          refine WL.nil ?_
          exact ⟨rfl, _, _, rfl, (Hp.le_refl _), rfl, hS290⟩
        · intro r_ w295 h296 hl297 hS294 hb_ hp_
          obtain ⟨b0_, b1_, b2_, _⟩ := hb_
          obtain ⟨p0_, _⟩ := hp_
          have p0_ : r_ 43 = .bool ((decide (z_a_i.name ≠ z_b_i.name) || (!(sameSeens z_a_i.seens z_b_i.seens)))) := p0_
          refine WL.gpure (gd := (!((decide (z_a_i.name ≠ z_b_i.name) || (!(sameSeens z_a_i.seens z_b_i.seens)))))) (yl_f (d := 43) rfl p0_) (fun hg => R_move (v := .int .i64 (((i : Nat) : Int))) b2_) ?_
          refine WL.nil ?_
          exact ⟨rfl, _, _, rfl, (Hp.le_refl _), rfl, hS294⟩
        · intro r_ w299 h300 hl301 hS298 hb_ hp_
          obtain ⟨b0_, b1_, b2_, _⟩ := hb_
          obtain ⟨p0_, p1_, p2_, _⟩ := hp_
          have p0_ : r_ 44 = gv ((!((decide (z_a_i.name ≠ z_b_i.name) || (!(sameSeens z_a_i.seens z_b_i.seens)))))) (.slice (a_a) (a).length (a_c)) := p0_
          have p1_ : r_ 45 = gv ((!((decide (z_a_i.name ≠ z_b_i.name) || (!(sameSeens z_a_i.seens z_b_i.seens)))))) (.int .i64 (((i : Nat) : Int))) := p1_
          have p2_ : r_ 43 = .bool ((decide (z_a_i.name ≠ z_b_i.name) || (!(sameSeens z_a_i.seens z_b_i.seens)))) := p2_
          refine WL.gpure (gd := (!((decide (z_a_i.name ≠ z_b_i.name) || (!(sameSeens z_a_i.seens z_b_i.seens)))))) (yl_f (d := 43) rfl p2_) (fun hg => R_indexAddrE (i := ((i : Nat) : Int)) (m := i) ha20 (gvT hg p0_) (gvT hg p1_) Tryd.underlying39 (Tryd.sizeOf38 _) (by first | rfl | (have hg_ := ((b_not (b_or b_dec (b_not Iff.rfl)))).1 hg; omega)) (by have hg_ := ((b_not (b_or b_dec (b_not Iff.rfl)))).1 hg; omega)) ?_
          refine WL.nil ?_
          exact ⟨rfl, _, _, rfl, (Hp.le_refl _), rfl, hS298⟩
        · intro r_ w303 h304 hl305 hS302 hb_ hp_
          obtain ⟨b0_, b1_, b2_, _⟩ := hb_
          obtain ⟨p0_, p1_, _⟩ := hp_
          have p0_ : r_ 46 = gv ((!((decide (z_a_i.name ≠ z_b_i.name) || (!(sameSeens z_a_i.seens z_b_i.seens)))))) (.pointer (some ⟨b18, (o19 + i * RRec2.n), none⟩)) := p0_
          have p1_ : r_ 43 = .bool ((decide (z_a_i.name ≠ z_b_i.name) || (!(sameSeens z_a_i.seens z_b_i.seens)))) := p1_
          refine WL.gpure (gd := (!((decide (z_a_i.name ≠ z_b_i.name) || (!(sameSeens z_a_i.seens z_b_i.seens)))))) (yl_f (d := 43) rfl p1_) (fun hg => R_fieldAddr (b := b18) (off := (o19 + i * RRec2.n)) (m := 2) (gvT hg p0_) (fun _ => by kernel_rfl)) ?_
          refine WL.nil ?_
          exact ⟨rfl, _, _, rfl, (Hp.le_refl _), rfl, hS302⟩
        · intro r_ w307 h308 hl309 hS306 hb_ hp_
          obtain ⟨b0_, b1_, b2_, _⟩ := hb_
          obtain ⟨p0_, p1_, _⟩ := hp_
          have p0_ : r_ 47 = gv ((!((decide (z_a_i.name ≠ z_b_i.name) || (!(sameSeens z_a_i.seens z_b_i.seens)))))) (.pointer (some ⟨b18, (o19 + i * RRec2.n) + 2, none⟩)) := p0_
          have p1_ : r_ 43 = .bool ((decide (z_a_i.name ≠ z_b_i.name) || (!(sameSeens z_a_i.seens z_b_i.seens)))) := p1_
          refine WL.gpure (gd := (!((decide (z_a_i.name ≠ z_b_i.name) || (!(sameSeens z_a_i.seens z_b_i.seens)))))) (yl_f (d := 43) rfl p1_) (fun hg => R_loadC (v := .slice (a26) (z_a_i.files).length (c27)) hS306 (gvT hg p0_) ((hat22.mono hl309).sub 2 1 (cs' := [.slice (a26) (z_a_i.files).length (c27)]) rfl) Tryd.isAgg23 rfl) ?_
          refine WL.nil ?_
          exact ⟨rfl, _, _, rfl, (Hp.le_refl _), rfl, hS306⟩
        · intro r_ w311 h312 hl313 hS310 hb_ hp_
          obtain ⟨b0_, b1_, b2_, _⟩ := hb_
          obtain ⟨p0_, p1_, _⟩ := hp_
          have p0_ : r_ 48 = gv ((!((decide (z_a_i.name ≠ z_b_i.name) || (!(sameSeens z_a_i.seens z_b_i.seens)))))) (.slice (a26) (z_a_i.files).length (c27)) := p0_
          have p1_ : r_ 43 = .bool ((decide (z_a_i.name ≠ z_b_i.name) || (!(sameSeens z_a_i.seens z_b_i.seens)))) := p1_
          refine WL.gpure (gd := (!((decide (z_a_i.name ≠ z_b_i.name) || (!(sameSeens z_a_i.seens z_b_i.seens)))))) (yl_f (d := 43) rfl p1_) (fun hg => R_len_slice (n := (z_a_i.files).length) (gvT hg p0_) Tryd.underlying23) ?_
          refine WL.nil ?_
          exact ⟨rfl, _, _, rfl, (Hp.le_refl _), rfl, hS310⟩
        · intro r_ w315 h316 hl317 hS314 hb_ hp_
          obtain ⟨b0_, b1_, b2_, _⟩ := hb_
          obtain ⟨p0_, _⟩ := hp_
          have p0_ : r_ 43 = .bool ((decide (z_a_i.name ≠ z_b_i.name) || (!(sameSeens z_a_i.seens z_b_i.seens)))) := p0_
          refine WL.gpure (gd := (!((decide (z_a_i.name ≠ z_b_i.name) || (!(sameSeens z_a_i.seens z_b_i.seens)))))) (yl_f (d := 43) rfl p0_) (fun hg => R_move (v := .slice (b_a) (b).length (b_c)) b1_) ?_
          refine WL.nil ?_
          exact ⟨rfl, _, _, rfl, (Hp.le_refl _), rfl, hS314⟩
        · intro r_ w319 h320 hl321 hS318 hb_ hp_
          obtain ⟨b0_, b1_, b2_, _⟩ := hb_
          obtain ⟨p0_, _⟩ := hp_
          have p0_ : r_ 43 = .bool ((decide (z_a_i.name ≠ z_b_i.name) || (!(sameSeens z_a_i.seens z_b_i.seens)))) := p0_
          refine WL.gpure (gd := (!((decide (z_a_i.name ≠ z_b_i.name) || (!(sameSeens z_a_i.seens z_b_i.seens)))))) (yl_f (d := 43) rfl p0_) (fun hg => R_move (v := .int .i64 (((i : Nat) : Int))) b2_) ?_
          refine WL.nil ?_
          exact ⟨rfl, _, _, rfl, (Hp.le_refl _), rfl, hS318⟩
        · intro r_ w323 h324 hl325 hS322 hb_ hp_
          obtain ⟨b0_, b1_, b2_, _⟩ := hb_
          obtain ⟨p0_, p1_, p2_, _⟩ := hp_
          have p0_ : r_ 50 = gv ((!((decide (z_a_i.name ≠ z_b_i.name) || (!(sameSeens z_a_i.seens z_b_i.seens)))))) (.slice (b_a) (b).length (b_c)) := p0_
          have p1_ : r_ 51 = gv ((!((decide (z_a_i.name ≠ z_b_i.name) || (!(sameSeens z_a_i.seens z_b_i.seens)))))) (.int .i64 (((i : Nat) : Int))) := p1_
          have p2_ : r_ 43 = .bool ((decide (z_a_i.name ≠ z_b_i.name) || (!(sameSeens z_a_i.seens z_b_i.seens)))) := p2_
          refine WL.gpure (gd := (!((decide (z_a_i.name ≠ z_b_i.name) || (!(sameSeens z_a_i.seens z_b_i.seens)))))) (yl_f (d := 43) rfl p2_) (fun hg => R_indexAddrE (i := ((i : Nat) : Int)) (m := i) ha52 (gvT hg p0_) (gvT hg p1_) Tryd.underlying39 (Tryd.sizeOf38 _) (by first | rfl | (have hg_ := ((b_not (b_or b_dec (b_not Iff.rfl)))).1 hg; omega)) (by have hg_ := ((b_not (b_or b_dec (b_not Iff.rfl)))).1 hg; omega)) ?_
          refine WL.nil ?_
          exact ⟨rfl, _, _, rfl, (Hp.le_refl _), rfl, hS322⟩
        · intro r_ w327 h328 hl329 hS326 hb_ hp_
          obtain ⟨b0_, b1_, b2_, _⟩ := hb_
          obtain ⟨p0_, p1_, _⟩ := hp_
          have p0_ : r_ 52 = gv ((!((decide (z_a_i.name ≠ z_b_i.name) || (!(sameSeens z_a_i.seens z_b_i.seens)))))) (.pointer (some ⟨b50, (o51 + i * RRec2.n), none⟩)) := p0_
          have p1_ : r_ 43 = .bool ((decide (z_a_i.name ≠ z_b_i.name) || (!(sameSeens z_a_i.seens z_b_i.seens)))) := p1_
          refine WL.gpure (gd := (!((decide (z_a_i.name ≠ z_b_i.name) || (!(sameSeens z_a_i.seens z_b_i.seens)))))) (yl_f (d := 43) rfl p1_) (fun hg => R_fieldAddr (b := b50) (off := (o51 + i * RRec2.n)) (m := 2) (gvT hg p0_) (fun _ => by kernel_rfl)) ?_
          refine WL.nil ?_
          exact ⟨rfl, _, _, rfl, (Hp.le_refl _), rfl, hS326⟩
        · intro r_ w331 h332 hl333 hS330 hb_ hp_
          obtain ⟨b0_, b1_, b2_, _⟩ := hb_
          obtain ⟨p0_, p1_, _⟩ := hp_
          have p0_ : r_ 53 = gv ((!((decide (z_a_i.name ≠ z_b_i.name) || (!(sameSeens z_a_i.seens z_b_i.seens)))))) (.pointer (some ⟨b50, (o51 + i * RRec2.n) + 2, none⟩)) := p0_
          have p1_ : r_ 43 = .bool ((decide (z_a_i.name ≠ z_b_i.name) || (!(sameSeens z_a_i.seens z_b_i.seens)))) := p1_
          refine WL.gpure (gd := (!((decide (z_a_i.name ≠ z_b_i.name) || (!(sameSeens z_a_i.seens z_b_i.seens)))))) (yl_f (d := 43) rfl p1_) (fun hg => R_loadC (v := .slice (a58) (z_b_i.files).length (c59)) hS330 (gvT hg p0_) ((hat54.mono hl333).sub 2 1 (cs' := [.slice (a58) (z_b_i.files).length (c59)]) rfl) Tryd.isAgg23 rfl) ?_
          refine WL.nil ?_
          exact ⟨rfl, _, _, rfl, (Hp.le_refl _), rfl, hS330⟩
        · intro r_ w335 h336 hl337 hS334 hb_ hp_
          obtain ⟨b0_, b1_, b2_, _⟩ := hb_
          obtain ⟨p0_, p1_, _⟩ := hp_
          have p0_ : r_ 54 = gv ((!((decide (z_a_i.name ≠ z_b_i.name) || (!(sameSeens z_a_i.seens z_b_i.seens)))))) (.slice (a58) (z_b_i.files).length (c59)) := p0_
          have p1_ : r_ 43 = .bool ((decide (z_a_i.name ≠ z_b_i.name) || (!(sameSeens z_a_i.seens z_b_i.seens)))) := p1_
          refine WL.gpure (gd := (!((decide (z_a_i.name ≠ z_b_i.name) || (!(sameSeens z_a_i.seens z_b_i.seens)))))) (yl_f (d := 43) rfl p1_) (fun hg => R_len_slice (n := (z_b_i.files).length) (gvT hg p0_) Tryd.underlying23) ?_
          refine WL.nil ?_
          exact ⟨rfl, _, _, rfl, (Hp.le_refl _), rfl, hS334⟩
        · intro r_ w339 h340 hl341 hS338 hb_ hf_
          obtain ⟨b0_, b1_, b2_, _⟩ := hb_
          obtain ⟨q0_, q1_, q2_, q3_, q4_, q5_, q6_, q7_, q8_, q9_, q10_, q11_, q12_, q13_, q14_, q15_, q16_, q17_, q18_, q19_, q20_, q21_, q22_, q23_, q24_, q25_, q26_, q27_, q28_, q29_, q30_, q31_, q32_, q33_, q34_, q35_, q36_, q37_, _⟩ := hf_
          refine WL.frame (((0, .slice (a_a) (a).length (a_c))) :: ((1, .slice (b_a) (b).length (b_c))) :: ((5, .int .i64 (((i : Nat) : Int)))) :: ((18, .slice (a_a) (a).length (a_c))) :: ((19, .int .i64 (((i : Nat) : Int)))) :: ((20, .pointer (some ⟨b18, (o19 + i * RRec2.n), none⟩))) :: ((21, .pointer (some ⟨b18, (o19 + i * RRec2.n), none⟩))) :: ((22, .string (B (z_a_i.name)))) :: ((23, .slice (b_a) (b).length (b_c))) :: ((24, .int .i64 (((i : Nat) : Int)))) :: ((25, .pointer (some ⟨b50, (o51 + i * RRec2.n), none⟩))) :: ((26, .pointer (some ⟨b50, (o51 + i * RRec2.n), none⟩))) :: ((27, .string (B (z_b_i.name)))) :: ((28, .bool (decide (z_a_i.name ≠ z_b_i.name)))) :: ((29, .bool (decide (z_a_i.name ≠ z_b_i.name)))) :: ((30, gv ((!(decide (z_a_i.name ≠ z_b_i.name)))) (.slice (a_a) (a).length (a_c)))) :: ((31, gv ((!(decide (z_a_i.name ≠ z_b_i.name)))) (.int .i64 (((i : Nat) : Int))))) :: ((32, gv ((!(decide (z_a_i.name ≠ z_b_i.name)))) (.pointer (some ⟨b18, (o19 + i * RRec2.n), none⟩)))) :: ((33, gv ((!(decide (z_a_i.name ≠ z_b_i.name)))) (.pointer (some ⟨b18, (o19 + i * RRec2.n) + 1, none⟩)))) :: ((34, gv ((!(decide (z_a_i.name ≠ z_b_i.name)))) (.slice (a24) (z_a_i.seens).length (c25)))) :: ((35, gv ((!(decide (z_a_i.name ≠ z_b_i.name)))) (.slice (b_a) (b).length (b_c)))) :: ((36, gv ((!(decide (z_a_i.name ≠ z_b_i.name)))) (.int .i64 (((i : Nat) : Int))))) :: ((37, gv ((!(decide (z_a_i.name ≠ z_b_i.name)))) (.pointer (some ⟨b50, (o51 + i * RRec2.n), none⟩)))) :: ((38, gv ((!(decide (z_a_i.name ≠ z_b_i.name)))) (.pointer (some ⟨b50, (o51 + i * RRec2.n) + 1, none⟩)))) :: ((39, gv ((!(decide (z_a_i.name ≠ z_b_i.name)))) (.slice (a56) (z_b_i.seens).length (c57)))) :: ((40, gv ((!(decide (z_a_i.name ≠ z_b_i.name)))) (.bool (sameSeens z_a_i.seens z_b_i.seens)))) :: ((41, gv ((!(decide (z_a_i.name ≠ z_b_i.name)))) (.bool ((!(sameSeens z_a_i.seens z_b_i.seens)))))) :: ((42, .bool ((decide (z_a_i.name ≠ z_b_i.name) || (!(sameSeens z_a_i.seens z_b_i.seens)))))) :: ((43, .bool ((decide (z_a_i.name ≠ z_b_i.name) || (!(sameSeens z_a_i.seens z_b_i.seens)))))) :: ((44, gv ((!((decide (z_a_i.name ≠ z_b_i.name) || (!(sameSeens z_a_i.seens z_b_i.seens)))))) (.slice (a_a) (a).length (a_c)))) :: ((45, gv ((!((decide (z_a_i.name ≠ z_b_i.name) || (!(sameSeens z_a_i.seens z_b_i.seens)))))) (.int .i64 (((i : Nat) : Int))))) :: ((46, gv ((!((decide (z_a_i.name ≠ z_b_i.name) || (!(sameSeens z_a_i.seens z_b_i.seens)))))) (.pointer (some ⟨b18, (o19 + i * RRec2.n), none⟩)))) :: ((47, gv ((!((decide (z_a_i.name ≠ z_b_i.name) || (!(sameSeens z_a_i.seens z_b_i.seens)))))) (.pointer (some ⟨b18, (o19 + i * RRec2.n) + 2, none⟩)))) :: ((48, gv ((!((decide (z_a_i.name ≠ z_b_i.name) || (!(sameSeens z_a_i.seens z_b_i.seens)))))) (.slice (a26) (z_a_i.files).length (c27)))) :: ((49, gv ((!((decide (z_a_i.name ≠ z_b_i.name) || (!(sameSeens z_a_i.seens z_b_i.seens)))))) (.int .i64 ((((z_a_i.files).length : Nat) : Int))))) :: ((50, gv ((!((decide (z_a_i.name ≠ z_b_i.name) || (!(sameSeens z_a_i.seens z_b_i.seens)))))) (.slice (b_a) (b).length (b_c)))) :: ((51, gv ((!((decide (z_a_i.name ≠ z_b_i.name) || (!(sameSeens z_a_i.seens z_b_i.seens)))))) (.int .i64 (((i : Nat) : Int))))) :: ((52, gv ((!((decide (z_a_i.name ≠ z_b_i.name) || (!(sameSeens z_a_i.seens z_b_i.seens)))))) (.pointer (some ⟨b50, (o51 + i * RRec2.n), none⟩)))) :: ((53, gv ((!((decide (z_a_i.name ≠ z_b_i.name) || (!(sameSeens z_a_i.seens z_b_i.seens)))))) (.pointer (some ⟨b50, (o51 + i * RRec2.n) + 2, none⟩)))) :: ((54, gv ((!((decide (z_a_i.name ≠ z_b_i.name) || (!(sameSeens z_a_i.seens z_b_i.seens)))))) (.slice (a58) (z_b_i.files).length (c59)))) :: ((55, gv ((!((decide (z_a_i.name ≠ z_b_i.name) || (!(sameSeens z_a_i.seens z_b_i.seens)))))) (.int .i64 ((((z_b_i.files).length : Nat) : Int))))) :: []) ⟨b0_, b1_, b2_, q0_, q1_, q2_, q3_, q4_, q5_, q6_, q7_, q8_, q9_, q10_, q11_, q12_, q13_, q14_, q15_, q16_, q17_, q18_, q19_, q20_, q21_, q22_, q23_, q24_, q25_, q26_, q27_, q28_, q29_, q30_, q31_, q32_, q33_, q34_, q35_, q36_, q37_, trivial⟩ (fun r_ => ?_)
          refine WL.gpure (gd := (!((decide (z_a_i.name ≠ z_b_i.name) || (!(sameSeens z_a_i.seens z_b_i.seens)))))) (yl_f (d := 43) rfl rfl) (fun hg => R_neq (a := (((z_a_i.files).length : Nat) : Int)) (b := (((z_b_i.files).length : Nat) : Int)) (gvT hg rfl) (gvT hg rfl)) ?_
          refine WL.val1 (R_or (cb := (decide (z_a_i.name ≠ z_b_i.name) || (!(sameSeens z_a_i.seens z_b_i.seens)))) (yb := decide ((((z_a_i.files).length : Nat) : Int) ≠ (((z_b_i.files).length : Nat) : Int))) rfl rfl rfl) ?_
          refine WL.nil ?_
          refine then_normal ?_
          refine WC.condI (((z_a_i.name ≠ z_b_i.name ∨ ¬ ((sameSeens z_a_i.seens z_b_i.seens) = true)) ∨ (((z_a_i.files).length : Nat) : Int) ≠ (((z_b_i.files).length : Nat) : Int))) (b := ((decide (z_a_i.name ≠ z_b_i.name) || (!(sameSeens z_a_i.seens z_b_i.seens))) || decide ((((z_a_i.files).length : Nat) : Int) ≠ (((z_b_i.files).length : Nat) : Int)))) rfl (b_or (b_or b_dec (b_not Iff.rfl)) b_dec) (fun c2 => ?_) (fun c2 => ?_)
          · skip
            refine WC.seq ?_
            refine WC.region ?_
            refine WL.val1 (R_assign (v := .bool (false)) rfl) ?_
            refine WL.nil ?_
            refine then_normal ?_
            refine WC.ret ?_
            refine then_ret ?_
            refine block_ret ?_
            refine then_ret ?_
            refine then_ret ?_
            refine block_ret ?_
            refine then_ret ?_
            refine top_ret (.bool (false)) (gives1 rfl rfl) ?_
            exact ⟨(by apply congrArg Value.bool; rw [← f2, all_step (zip_at hz_a_i hz_b_i), sameRec_no c2]; rfl), (hS338.weaken_h (hl4.trans hl341))⟩
          · skip
            refine WC.skip ?_
            refine then_normal ?_
            refine WC.seq ?_
            refine WC.region ?_
            refine WL.val1 (R_assign (v := .int .i64 (0)) rfl) ?_
            refine WL.nil ?_
            refine then_normal ?_
            refine WC.block ?_
            refine WC.loopL (σ := Nat)
              (fun (q_ : Nat) => (fun (j : Nat) => [(0, .slice (a_a) (a).length (a_c)), (1, .slice (b_a) (b).length (b_c)), (5, .int .i64 (((i : Nat) : Int))), (6, .int .i64 (((j : Nat) : Int)))]) (q_))
              (fun (q_ : Nat) (w_ : World) => (fun (j : Nat) => ∃ h344 : Hp, h340.le h344 ∧ St Γ h344 (L) w_ ∧ (j ≤ z_a_i.files.length) ∧ (((z_a_i.files.zip z_b_i.files).drop j).all (fun p => decide (p.1.name = p.2.name ∧ p.1.text = p.2.text)) = sameFiles z_a_i.files z_b_i.files)) (q_))
              (fun (q_ : Nat) => (fun (j : Nat) => z_a_i.files.length - j) (q_)) (0) ?_ ?_ ?_
            · exact ⟨rfl, rfl, rfl, (by first | rfl | (apply congrArg (Value.int .i64); omega) | simp), trivial⟩
            · exact ⟨h340, Hp.le_refl _, hS338, (by first | assumption | omega | simp), (by rfl)⟩
            · rintro j r346 w343 ⟨h344, hl345, hS342, g1, g2⟩
              try dsimp only at g1 g2
              refine WC.seq ?_
              refine WC.seq ?_
              refine WC.region ?_
              refine WL.val1 (R_move (v := .int .i64 (((j : Nat) : Int))) rfl) ?_
              refine WL.val1 (R_move (v := .slice (a_a) (a).length (a_c)) rfl) ?_
              refine WL.val1 (R_move (v := .int .i64 (((i : Nat) : Int))) rfl) ?_
              refine WL.val1 (R_indexAddrE (i := ((i : Nat) : Int)) (m := i) ha20 rfl rfl Tryd.underlying39 (Tryd.sizeOf38 _) (by first | rfl | (omega)) (by omega)) ?_
              refine WL.val1 (R_fieldAddr (b := b18) (off := (o19 + i * RRec2.n)) (m := 2) rfl (fun _ => by kernel_rfl)) ?_
              refine WL.val1 (R_loadC (v := .slice (a26) (z_a_i.files).length (c27)) hS342 rfl ((hat22.mono (hl341.trans hl345)).sub 2 1 (cs' := [.slice (a26) (z_a_i.files).length (c27)]) rfl) Tryd.isAgg23 rfl) ?_
              refine WL.val1 (R_len_slice (n := (z_a_i.files).length) rfl Tryd.underlying23) ?_
              refine WL.val1 (R_lss (a := ((j : Nat) : Int)) (b := (((z_a_i.files).length : Nat) : Int)) rfl rfl) ?_
              refine WL.nil ?_
              refine then_normal ?_
              refine WC.condP (((j : Nat) : Int) < (((z_a_i.files).length : Nat) : Int)) rfl (fun c3 => ?_) (fun c3 => ?_)
              · skip
                refine WC.skip ?_
                refine then_normal ?_
                refine WC.seq ?_
                refine WC.block ?_
                refine WC.seq ?_
                obtain ⟨z_z_a_i_files_j, hz_z_a_i_files_j⟩ : ∃ z, (z_a_i.files)[j]? = some z := ⟨_, List.getElem?_eq_getElem (by omega)⟩
                obtain ⟨b375, o376, cs380, ha377, hr378, hat379⟩ := (hs29.mono (hl341.trans hl345)).2 j z_z_a_i_files_j hz_z_a_i_files_j
                subst hr378
                obtain ⟨z_z_b_i_files_j, hz_z_b_i_files_j⟩ : ∃ z, (z_b_i.files)[j]? = some z := ⟨_, List.getElem?_eq_getElem (by omega)⟩
                obtain ⟨b413, o414, cs418, ha415, hr416, hat417⟩ := (hs61.mono (hl341.trans hl345)).2 j z_z_b_i_files_j hz_z_b_i_files_j
                subst hr416
                refine WC.draw 16 [(0, .slice (a_a) (a).length (a_c)), (1, .slice (b_a) (b).length (b_c)), (5, .int .i64 (((i : Nat) : Int))), (6, .int .i64 (((j : Nat) : Int)))] [fun _ v => v = .slice (a_a) (a).length (a_c), fun _ v => v = .int .i64 (((i : Nat) : Int)), fun _ v => v = .pointer (some ⟨b18, (o19 + i * RRec2.n), none⟩), fun _ v => v = .pointer (some ⟨b18, (o19 + i * RRec2.n) + 2, none⟩), fun _ v => v = .slice (a26) (z_a_i.files).length (c27), fun _ v => v = .int .i64 (((j : Nat) : Int)), fun _ v => v = .pointer (some ⟨b375, (o376 + j * RFile.n), none⟩), fun _ v => v = .agg #[.string (B (z_z_a_i_files_j.name)), .string (B (z_z_a_i_files_j.text))], fun _ v => v = .slice (b_a) (b).length (b_c), fun _ v => v = .int .i64 (((i : Nat) : Int)), fun _ v => v = .pointer (some ⟨b50, (o51 + i * RRec2.n), none⟩), fun _ v => v = .pointer (some ⟨b50, (o51 + i * RRec2.n) + 2, none⟩), fun _ v => v = .slice (a58) (z_b_i.files).length (c59), fun _ v => v = .int .i64 (((j : Nat) : Int)), fun _ v => v = .pointer (some ⟨b413, (o414 + j * RFile.n), none⟩), fun _ v => v = .agg #[.string (B (z_z_b_i_files_j.name)), .string (B (z_z_b_i_files_j.text))]] hS342 (by kernel_rfl) (by kernel_rfl) (MonoFs.pure (MonoFs.pure (MonoFs.pure (MonoFs.pure (MonoFs.pure (MonoFs.pure (MonoFs.pure (MonoFs.pure (MonoFs.pure (MonoFs.pure (MonoFs.pure (MonoFs.pure (MonoFs.pure (MonoFs.pure (MonoFs.pure (MonoFs.pure MonoFs.nil)))))))))))))))) ⟨rfl, rfl, rfl, rfl, trivial⟩ ⟨?_, ?_, ?_, ?_, ?_, ?_, ?_, ?_, ?_, ?_, ?_, ?_, ?_, ?_, ?_, ?_, trivial⟩ ?_
                · intro r_ w424 h425 hl426 hS423 hb_ hp_
                  obtain ⟨b0_, b1_, b2_, b3_, _⟩ := hb_
                  refine WL.val1 (R_move (v := .slice (a_a) (a).length (a_c)) b0_) ?_
                  refine WL.nil ?_
                  exact ⟨rfl, _, _, rfl, (Hp.le_refl _), rfl, hS423⟩
                · intro r_ w428 h429 hl430 hS427 hb_ hp_
                  obtain ⟨b0_, b1_, b2_, b3_, _⟩ := hb_
                  refine WL.val1 (R_move (v := .int .i64 (((i : Nat) : Int))) b2_) ?_
                  refine WL.nil ?_
                  exact ⟨rfl, _, _, rfl, (Hp.le_refl _), rfl, hS427⟩
                · intro r_ w432 h433 hl434 hS431 hb_ hp_
                  obtain ⟨b0_, b1_, b2_, b3_, _⟩ := hb_
                  obtain ⟨p0_, p1_, _⟩ := hp_
                  have p0_ : r_ 68 = .slice (a_a) (a).length (a_c) := p0_
                  have p1_ : r_ 69 = .int .i64 (((i : Nat) : Int)) := p1_
                  refine WL.val1 (R_indexAddrE (i := ((i : Nat) : Int)) (m := i) ha20 p0_ p1_ Tryd.underlying39 (Tryd.sizeOf38 _) (by first | rfl | (omega)) (by omega)) ?_
                  refine WL.nil ?_
                  exact ⟨rfl, _, _, rfl, (Hp.le_refl _), rfl, hS431⟩
                · intro r_ w436 h437 hl438 hS435 hb_ hp_
                  obtain ⟨b0_, b1_, b2_, b3_, _⟩ := hb_
                  obtain ⟨p0_, _⟩ := hp_
                  have p0_ : r_ 70 = .pointer (some ⟨b18, (o19 + i * RRec2.n), none⟩) := p0_
                  refine WL.val1 (R_fieldAddr (b := b18) (off := (o19 + i * RRec2.n)) (m := 2) p0_ (fun _ => by kernel_rfl)) ?_
                  refine WL.nil ?_
                  exact ⟨rfl, _, _, rfl, (Hp.le_refl _), rfl, hS435⟩
                · intro r_ w440 h441 hl442 hS439 hb_ hp_
                  obtain ⟨b0_, b1_, b2_, b3_, _⟩ := hb_
                  obtain ⟨p0_, _⟩ := hp_
                  have p0_ : r_ 71 = .pointer (some ⟨b18, (o19 + i * RRec2.n) + 2, none⟩) := p0_
                  refine WL.val1 (R_loadC (v := .slice (a26) (z_a_i.files).length (c27)) hS439 p0_ ((hat22.mono ((hl341.trans hl345).trans hl442)).sub 2 1 (cs' := [.slice (a26) (z_a_i.files).length (c27)]) rfl) Tryd.isAgg23 rfl) ?_
                  refine WL.nil ?_
                  exact ⟨rfl, _, _, rfl, (Hp.le_refl _), rfl, hS439⟩
                · intro r_ w444 h445 hl446 hS443 hb_ hp_
                  obtain ⟨b0_, b1_, b2_, b3_, _⟩ := hb_
                  refine WL.val1 (R_move (v := .int .i64 (((j : Nat) : Int))) b3_) ?_
                  refine WL.nil ?_
                  exact ⟨rfl, _, _, rfl, (Hp.le_refl _), rfl, hS443⟩
                · intro r_ w448 h449 hl450 hS447 hb_ hp_
                  obtain ⟨b0_, b1_, b2_, b3_, _⟩ := hb_
                  obtain ⟨p0_, p1_, _⟩ := hp_
                  have p0_ : r_ 72 = .slice (a26) (z_a_i.files).length (c27) := p0_
                  have p1_ : r_ 73 = .int .i64 (((j : Nat) : Int)) := p1_
                  refine WL.val1 (R_indexAddrE (i := ((j : Nat) : Int)) (m := j) ha377 p0_ p1_ Tryd.underlying23 (Tryd.sizeOf53 _) (by first | rfl | (omega)) (by omega)) ?_
                  refine WL.nil ?_
                  exact ⟨rfl, _, _, rfl, (Hp.le_refl _), rfl, hS447⟩
                · intro r_ w452 h453 hl454 hS451 hb_ hp_
                  obtain ⟨b0_, b1_, b2_, b3_, _⟩ := hb_
                  obtain ⟨p0_, _⟩ := hp_
                  have p0_ : r_ 74 = .pointer (some ⟨b375, (o376 + j * RFile.n), none⟩) := p0_
                  refine WL.val1 (R_loadCA (cs := [.string (B (z_z_a_i_files_j.name)), .string (B (z_z_a_i_files_j.text))]) hS451 p0_ (hat379.mono hl454) Tryd.isAgg53 Tryd.sizeOf53 rfl) ?_
                  refine WL.nil ?_
                  exact ⟨rfl, _, _, rfl, (Hp.le_refl _), rfl, hS451⟩
                · intro r_ w456 h457 hl458 hS455 hb_ hp_
                  obtain ⟨b0_, b1_, b2_, b3_, _⟩ := hb_
                  refine WL.val1 (R_move (v := .slice (b_a) (b).length (b_c)) b1_) ?_
                  refine WL.nil ?_
                  exact ⟨rfl, _, _, rfl, (Hp.le_refl _), rfl, hS455⟩
                · intro r_ w460 h461 hl462 hS459 hb_ hp_
                  obtain ⟨b0_, b1_, b2_, b3_, _⟩ := hb_
                  refine WL.val1 (R_move (v := .int .i64 (((i : Nat) : Int))) b2_) ?_
                  refine WL.nil ?_
                  exact ⟨rfl, _, _, rfl, (Hp.le_refl _), rfl, hS459⟩
                · intro r_ w464 h465 hl466 hS463 hb_ hp_
                  obtain ⟨b0_, b1_, b2_, b3_, _⟩ := hb_
                  obtain ⟨p0_, p1_, _⟩ := hp_
                  have p0_ : r_ 76 = .slice (b_a) (b).length (b_c) := p0_
                  have p1_ : r_ 77 = .int .i64 (((i : Nat) : Int)) := p1_
                  refine WL.val1 (R_indexAddrE (i := ((i : Nat) : Int)) (m := i) ha52 p0_ p1_ Tryd.underlying39 (Tryd.sizeOf38 _) (by first | rfl | (omega)) (by omega)) ?_
                  refine WL.nil ?_
                  exact ⟨rfl, _, _, rfl, (Hp.le_refl _), rfl, hS463⟩
                · intro r_ w468 h469 hl470 hS467 hb_ hp_
                  obtain ⟨b0_, b1_, b2_, b3_, _⟩ := hb_
                  obtain ⟨p0_, _⟩ := hp_
                  have p0_ : r_ 78 = .pointer (some ⟨b50, (o51 + i * RRec2.n), none⟩) := p0_
                  refine WL.val1 (R_fieldAddr (b := b50) (off := (o51 + i * RRec2.n)) (m := 2) p0_ (fun _ => by kernel_rfl)) ?_
                  refine WL.nil ?_
                  exact ⟨rfl, _, _, rfl, (Hp.le_refl _), rfl, hS467⟩
                · intro r_ w472 h473 hl474 hS471 hb_ hp_
                  obtain ⟨b0_, b1_, b2_, b3_, _⟩ := hb_
                  obtain ⟨p0_, _⟩ := hp_
                  have p0_ : r_ 79 = .pointer (some ⟨b50, (o51 + i * RRec2.n) + 2, none⟩) := p0_
                  refine WL.val1 (R_loadC (v := .slice (a58) (z_b_i.files).length (c59)) hS471 p0_ ((hat54.mono ((hl341.trans hl345).trans hl474)).sub 2 1 (cs' := [.slice (a58) (z_b_i.files).length (c59)]) rfl) Tryd.isAgg23 rfl) ?_
                  refine WL.nil ?_
                  exact ⟨rfl, _, _, rfl, (Hp.le_refl _), rfl, hS471⟩
                · intro r_ w476 h477 hl478 hS475 hb_ hp_
                  obtain ⟨b0_, b1_, b2_, b3_, _⟩ := hb_
                  refine WL.val1 (R_move (v := .int .i64 (((j : Nat) : Int))) b3_) ?_
                  refine WL.nil ?_
                  exact ⟨rfl, _, _, rfl, (Hp.le_refl _), rfl, hS475⟩
                · intro r_ w480 h481 hl482 hS479 hb_ hp_
                  obtain ⟨b0_, b1_, b2_, b3_, _⟩ := hb_
                  obtain ⟨p0_, p1_, _⟩ := hp_
                  have p0_ : r_ 80 = .slice (a58) (z_b_i.files).length (c59) := p0_
                  have p1_ : r_ 81 = .int .i64 (((j : Nat) : Int)) := p1_
                  refine WL.val1 (R_indexAddrE (i := ((j : Nat) : Int)) (m := j) ha415 p0_ p1_ Tryd.underlying23 (Tryd.sizeOf53 _) (by first | rfl | (omega)) (by omega)) ?_
                  refine WL.nil ?_
                  exact ⟨rfl, _, _, rfl, (Hp.le_refl _), rfl, hS479⟩
                · intro r_ w484 h485 hl486 hS483 hb_ hp_
                  obtain ⟨b0_, b1_, b2_, b3_, _⟩ := hb_
                  obtain ⟨p0_, _⟩ := hp_
                  have p0_ : r_ 82 = .pointer (some ⟨b413, (o414 + j * RFile.n), none⟩) := p0_
                  refine WL.val1 (R_loadCA (cs := [.string (B (z_z_b_i_files_j.name)), .string (B (z_z_b_i_files_j.text))]) hS483 p0_ (hat417.mono hl486) Tryd.isAgg53 Tryd.sizeOf53 rfl) ?_
                  refine WL.nil ?_
                  exact ⟨rfl, _, _, rfl, (Hp.le_refl _), rfl, hS483⟩
                · intro r_ w488 h489 hl490 hS487 hb_ hf_
                  obtain ⟨b0_, b1_, b2_, b3_, _⟩ := hb_
                  obtain ⟨q0_, q1_, q2_, q3_, q4_, q5_, q6_, q7_, q8_, q9_, q10_, q11_, q12_, q13_, q14_, q15_, _⟩ := hf_
                  refine WL.frame (((0, .slice (a_a) (a).length (a_c))) :: ((1, .slice (b_a) (b).length (b_c))) :: ((5, .int .i64 (((i : Nat) : Int)))) :: ((6, .int .i64 (((j : Nat) : Int)))) :: ((68, .slice (a_a) (a).length (a_c))) :: ((69, .int .i64 (((i : Nat) : Int)))) :: ((70, .pointer (some ⟨b18, (o19 + i * RRec2.n), none⟩))) :: ((71, .pointer (some ⟨b18, (o19 + i * RRec2.n) + 2, none⟩))) :: ((72, .slice (a26) (z_a_i.files).length (c27))) :: ((73, .int .i64 (((j : Nat) : Int)))) :: ((74, .pointer (some ⟨b375, (o376 + j * RFile.n), none⟩))) :: ((75, .agg #[.string (B (z_z_a_i_files_j.name)), .string (B (z_z_a_i_files_j.text))])) :: ((76, .slice (b_a) (b).length (b_c))) :: ((77, .int .i64 (((i : Nat) : Int)))) :: ((78, .pointer (some ⟨b50, (o51 + i * RRec2.n), none⟩))) :: ((79, .pointer (some ⟨b50, (o51 + i * RRec2.n) + 2, none⟩))) :: ((80, .slice (a58) (z_b_i.files).length (c59))) :: ((81, .int .i64 (((j : Nat) : Int)))) :: ((82, .pointer (some ⟨b413, (o414 + j * RFile.n), none⟩))) :: ((83, .agg #[.string (B (z_z_b_i_files_j.name)), .string (B (z_z_b_i_files_j.text))])) :: []) ⟨b0_, b1_, b2_, b3_, q0_, q1_, q2_, q3_, q4_, q5_, q6_, q7_, q8_, q9_, q10_, q11_, q12_, q13_, q14_, q15_, trivial⟩ (fun r_ => ?_)
                  refine WL.val1 (R_aggNeq (c := (decide (z_z_a_i_files_j.name = z_z_b_i_files_j.name) && (decide (z_z_a_i_files_j.text = z_z_b_i_files_j.text) && true))) (xs := #[.string (B (z_z_a_i_files_j.name)), .string (B (z_z_a_i_files_j.text))]) (ys := #[.string (B (z_z_b_i_files_j.name)), .string (B (z_z_b_i_files_j.text))]) rfl rfl (by kernel_rfl) Tryd.underlying53 (by kernel_rfl) (eqFields_cons (by decide) Tryd.isAgg9 rfl rfl (eqIn_str Tryd.underlying9) (eqFields_cons (by decide) Tryd.isAgg9 rfl rfl (eqIn_str Tryd.underlying9) eqFields_nil))) ?_
                  refine WL.nil ?_
                  refine then_normal ?_
                  refine WC.condI (¬ (((z_z_a_i_files_j.name = z_z_b_i_files_j.name) ∧ ((z_z_a_i_files_j.text = z_z_b_i_files_j.text) ∧ True)))) (b := (!((decide (z_z_a_i_files_j.name = z_z_b_i_files_j.name) && (decide (z_z_a_i_files_j.text = z_z_b_i_files_j.text) && true))))) rfl (b_not (b_and b_dec (b_and b_dec b_true))) (fun c4 => ?_) (fun c4 => ?_)
                  · skip
                    refine WC.seq ?_
                    refine WC.region ?_
                    refine WL.val1 (R_assign (v := .bool (false)) rfl) ?_
                    refine WL.nil ?_
                    refine then_normal ?_
                    refine WC.ret ?_
                    refine block_ret ?_
                    refine then_ret ?_
                    refine then_ret ?_
                    refine block_ret ?_
                    refine block_ret ?_
                    refine then_ret ?_
                    refine then_ret ?_
                    refine block_ret ?_
                    refine then_ret ?_
                    refine top_ret (.bool (false)) (gives1 rfl rfl) ?_
                    exact ⟨(by apply congrArg Value.bool; rw [← f2, all_step (zip_at hz_a_i hz_b_i), sameRec_files (same_go c2), ← g2, all_step (zip_at hz_z_a_i_files_j hz_z_b_i_files_j), decide_eq_false (fun hh => c4 ⟨hh.1, hh.2, trivial⟩)]; rfl), (hS487.weaken_h (((hl4.trans hl341).trans hl345).trans hl490))⟩
                  · skip
                    refine WC.skip ?_
                    refine block_normal ?_
                    refine then_normal ?_
                    refine WC.region ?_
                    refine WL.val1 (R_move (v := .int .i64 (((j : Nat) : Int))) rfl) ?_
                    refine WL.val1 (R_add_i (a := ((j : Nat) : Int)) (b := 1) rfl rfl (by omega)) ?_
                    refine WL.val1 (R_assign (v := .int .i64 ((((j : Nat) : Int) + 1))) rfl) ?_
                    refine WL.nil ?_
                    refine then_normal ?_
                    exact ⟨(j + 1), ⟨rfl, rfl, rfl, (by first | rfl | (apply congrArg (Value.int .i64); omega) | simp), trivial⟩, ⟨h489, (hl345.trans hl490), hS487, (by (try dsimp only); first | assumption | omega | simp), (by (try dsimp only); rw [← g2, all_step (zip_at hz_z_a_i_files_j hz_z_b_i_files_j)]; have c5 := Decidable.not_not.1 c4; rw [decide_eq_true (⟨c5.1, c5.2.1⟩ : _ ∧ _), Bool.true_and])⟩, (by first | (simp only []; omega) | (simp; omega))⟩
              · skip
                refine WC.exit ?_
                refine then_exit ?_
                refine then_exit ?_
                refine block_exit ?_
                refine block_normal ?_
                refine then_normal ?_
                refine WC.region ?_
                refine WL.val1 (R_move (v := .int .i64 (((i : Nat) : Int))) rfl) ?_
                refine WL.val1 (R_add_i (a := ((i : Nat) : Int)) (b := 1) rfl rfl (by omega)) ?_
                refine WL.val1 (R_assign (v := .int .i64 ((((i : Nat) : Int) + 1))) rfl) ?_
                refine WL.nil ?_
                refine then_normal ?_
                exact ⟨(i + 1), ⟨rfl, rfl, (by first | rfl | (apply congrArg (Value.int .i64); omega) | simp), trivial⟩, ⟨h344, ((hl4.trans hl341).trans hl345), hS342, (by (try dsimp only); first | assumption | omega | simp), (by (try dsimp only); rw [← f2, all_step (zip_at hz_a_i hz_b_i)]; have c6 := same_go c2; rw [sameRec_files c6, ← g2, all_end (l := z_a_i.files.zip z_b_i.files) (i := j) (by rw [List.length_zip]; omega), Bool.true_and])⟩, (by first | (simp only []; omega) | (simp; omega))⟩
      · skip
        refine WC.exit ?_
        refine then_exit ?_
        refine then_exit ?_
        refine block_exit ?_
        refine then_normal ?_
        refine WC.seq ?_
        refine WC.region ?_
        refine WL.val1 (R_assign (v := .bool (true)) rfl) ?_
        refine WL.nil ?_
        refine then_normal ?_
        refine WC.ret ?_
        refine top_ret (.bool (true)) (gives1 rfl rfl) ?_
        exact ⟨(by apply congrArg Value.bool; rw [← f2, all_end (by rw [List.length_zip]; omega)]), (hS1.weaken_h hl4)⟩
end Go.Stet
