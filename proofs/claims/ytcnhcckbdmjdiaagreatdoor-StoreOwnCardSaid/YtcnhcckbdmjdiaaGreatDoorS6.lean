/- What the layers compute, in plain Lean, and laws about that. Each under the conditions that its own statement names. -/
import Derived.Test.YtcnhcckbdmjdiaaGreatDoorSeatS3
import Derived.Test.YtcnhcckbdmjdiaaGreatDoorBldS
import Derived.Test.YtcnhcckbdmjdiaaGreatDoorEng18
import Derived.Test.YtcnhcckbdmjdiaaGreatDoorSpecS1
import Derived.Test.YtcnhcckbdmjdiaaGreatDoorS5
set_option linter.all false
set_option linter.unusedSimpArgs false
set_option linter.unusedVariables false
namespace Go.Stet
open Go Go.Eng Go.Proofs
set_option maxHeartbeats 400000 in
theorem ref02_Drop (l : List File) (l_a : Option Addr) (l_c : Nat) (n : Str) (hl : l.length ≤ 1000000) : FnC GG Tryz.prog 52 (fun h => Sl RFile h l l_a l_c) [.slice (l_a) (l).length (l_c), .string (B (n))] (fun h v => ∃ (a : Option Addr) (c : Nat), v = .tuple #[.slice (a) ((dropS l n)).length (c), .bool (decide ((((dropS l n).length : Nat) : Int) < (((l).length : Nat) : Int)))] ∧ (Sl RFile h (dropS l n) a c)) := by
  intro Γ h L w hpre hS
  have sl_l := hpre
  refine Ret.body Tryz.func52 rfl Tryz.ntmps52 (Nat.le_of_ble_eq_true rfl) ?_
  refine WC.seq ?_
  refine WC.region ?_
  refine WL.val1 (R_assign (v := .slice none 0 0) rfl) ?_
  refine WL.val1 (R_assign (v := .bool (false)) rfl) ?_
  refine WL.nil ?_
  refine then_normal ?_
  refine WC.seq ?_
  refine WC.region ?_
  refine S_buildSlice0 (R := RFile) (e := 29) hS Tryz.underlying30 (Tryz.sizeOf29) ?_
  intro w2 hS1
  refine WL.val1 (R_assign (v := .slice (some ⟨w.heap.size, 0, none⟩) 0 (0)) rfl) ?_
  refine WL.nil ?_
  refine then_normal ?_
  refine WC.seq ?_
  refine WC.seq ?_
  refine WC.region ?_
  refine WL.val1 (R_assign (v := .int .i64 (0)) rfl) ?_
  refine WL.nil ?_
  refine then_normal ?_
  refine WC.block ?_
  refine WC.loopL (σ := Nat × (List File) × (Option Addr) × Nat)
    (fun (q_ : Nat × (List File) × (Option Addr) × Nat) => (fun (i : Nat) (acc : List File) (acc_a : Option Addr) (acc_c : Nat) => [(0, .slice (l_a) (l).length (l_c)), (1, .string (B (n))), (6, .slice (acc_a) (acc).length (acc_c)), (7, .int .i64 (((i : Nat) : Int)))]) (q_.1) (q_.2.1) (q_.2.2.1) (q_.2.2.2))
    (fun (q_ : Nat × (List File) × (Option Addr) × Nat) (w_ : World) => (fun (i : Nat) (acc : List File) (acc_a : Option Addr) (acc_c : Nat) => ∃ h5 : Hp, h.le h5 ∧ St Γ h5 (grow 29 RFile h5 (acc) (acc_a) (acc_c) :: L) w_ ∧ (i ≤ l.length) ∧ (acc = dropS (l.take i) n) ∧ (acc.length ≤ i)) (q_.1) (q_.2.1) (q_.2.2.1) (q_.2.2.2))
    (fun (q_ : Nat × (List File) × (Option Addr) × Nat) => (fun (i : Nat) (acc : List File) (acc_a : Option Addr) (acc_c : Nat) => l.length - i) (q_.1) (q_.2.1) (q_.2.2.1) (q_.2.2.2)) (0, ([] : List File), some ⟨w.heap.size, 0, none⟩, 0) ?_ ?_ ?_
  · exact ⟨rfl, rfl, (by first | rfl | (apply congrArg (Value.int .i64); omega) | simp), (by first | rfl | (apply congrArg (Value.int .i64); omega) | simp), trivial⟩
  · exact ⟨h, Hp.le_refl _, hS1, (by first | assumption | omega | simp), (by rfl), (by first | assumption | omega | simp)⟩
  · rintro ⟨i, acc, acc_a, acc_c⟩ r7 w4 ⟨h5, hl6, hS3, f1, f2, f3⟩
    try dsimp only at f1 f2 f3
    refine WC.seq ?_
    refine WC.seq ?_
    refine WC.region ?_
    refine WL.val1 (R_move (v := .int .i64 (((i : Nat) : Int))) rfl) ?_
    refine WL.val1 (R_move (v := .slice (l_a) (l).length (l_c)) rfl) ?_
    refine WL.val1 (R_len_slice (n := (l).length) rfl Tryz.underlying30) ?_
    refine WL.val1 (R_lss (a := ((i : Nat) : Int)) (b := (((l).length : Nat) : Int)) rfl rfl) ?_
    refine WL.nil ?_
    refine then_normal ?_
    refine WC.condP (((i : Nat) : Int) < (((l).length : Nat) : Int)) rfl (fun c0 => ?_) (fun c0 => ?_)
    · skip
      refine WC.skip ?_
      refine then_normal ?_
      refine WC.seq ?_
      refine WC.block ?_
      refine WC.seq ?_
      refine WC.region ?_
      refine WL.val1 (R_move (v := .slice (l_a) (l).length (l_c)) rfl) ?_
      refine WL.val1 (R_move (v := .int .i64 (((i : Nat) : Int))) rfl) ?_
      obtain ⟨z_l_i, hz_l_i⟩ : ∃ z, (l)[i]? = some z := ⟨_, List.getElem?_eq_getElem (by omega)⟩
      obtain ⟨b8, o9, cs13, ha10, hr11, hat12⟩ := (sl_l.mono hl6).2 i z_l_i hz_l_i
      subst hr11
      refine WL.val1 (R_indexAddrE (i := ((i : Nat) : Int)) (m := i) ha10 rfl rfl Tryz.underlying30 (Tryz.sizeOf29 _) (by first | rfl | (omega)) (by omega)) ?_
      refine WL.val1 (R_fieldAddr (b := b8) (off := (o9 + i * RFile.n)) (m := 0) rfl (fun _ => by kernel_rfl)) ?_
      refine WL.val1 (R_loadC (v := .string (B (z_l_i.name))) hS3 rfl (hat12.sub 0 1 (cs' := [.string (B (z_l_i.name))]) rfl) Tryz.isAgg9 rfl) ?_
      refine WL.val1 (R_move (v := .string (B (n))) rfl) ?_
      refine WL.val1 (R_sneq (a := z_l_i.name) (b := n) rfl rfl) ?_
      refine WL.nil ?_
      refine then_normal ?_
      refine WC.condP (z_l_i.name ≠ n) rfl (fun c1 => ?_) (fun c1 => ?_)
      · skip
        refine WC.region ?_
        refine WL.val1 (R_move (v := .slice (acc_a) (acc).length (acc_c)) rfl) ?_
        refine WL.val1 (R_move (v := .slice (l_a) (l).length (l_c)) rfl) ?_
        refine WL.val1 (R_move (v := .int .i64 (((i : Nat) : Int))) rfl) ?_
        refine WL.val1 (R_indexAddrE (i := ((i : Nat) : Int)) (m := i) ha10 rfl rfl Tryz.underlying30 (Tryz.sizeOf29 _) (by first | rfl | (omega)) (by omega)) ?_
        refine WL.val1 (R_loadCA (cs := [.string (B (z_l_i.name)), .string (B (z_l_i.text))]) hS3 rfl hat12 Tryz.isAgg29 Tryz.sizeOf29 rfl) ?_
        refine S_buildSliceC (R := RFile) (m := 1) (vs := [(0, .agg #[.string (B (z_l_i.name)), .string (B (z_l_i.text))])]) (cells := [.string (B (z_l_i.name)), .string (B (z_l_i.text))]) (xs := [z_l_i]) hS3 Tryz.underlying30 Tryz.sizeOf29 Tryz.zeroValue29 (by decide) (by decide) rfl (by kernel_rfl) (by exact (⟨[.string (B (z_l_i.name)), .string (B (z_l_i.text))], _, rfl, rfl, rfl⟩ : Flat RFile _ [z_l_i] _)) rfl ?_
        intro h16 b18 w15 hl17 hs19 hS14
        refine S_append (info := Tryz.t29) (R := RFile) (xs := acc) (ys := [z_l_i]) (a := acc_a) (c := acc_c) 0 Tryz.underlying30 (by kernel_rfl) rfl rfl rfl (by decide) 32 rfl hS14 rfl hl17 hs19 rfl rfl (by (try simp only [List.length_append, List.length_cons, List.length_nil]); omega) (by (try simp only [List.length_append, List.length_cons, List.length_nil]); omega) ?_
        intro a20 c21 w22 hS23
        refine WL.val1 (R_assign (v := .slice (a20) ((acc ++ [z_l_i])).length (c21)) rfl) ?_
        refine WL.nil ?_
        refine block_normal ?_
        refine then_normal ?_
        refine WC.region ?_
        refine WL.val1 (R_move (v := .int .i64 (((i : Nat) : Int))) rfl) ?_
        refine WL.val1 (R_add_i (a := ((i : Nat) : Int)) (b := 1) rfl rfl (by omega)) ?_
        refine WL.val1 (R_assign (v := .int .i64 ((((i : Nat) : Int) + 1))) rfl) ?_
        refine WL.nil ?_
        refine then_normal ?_
        exact ⟨(i + 1, (acc ++ [z_l_i]), a20, c21), ⟨rfl, rfl, (by first | rfl | (apply congrArg (Value.int .i64); omega) | simp), (by first | rfl | (apply congrArg (Value.int .i64); omega) | simp), trivial⟩, ⟨h16, (hl6.trans hl17), hS23, (by (try dsimp only); first | assumption | omega | simp), (by (try dsimp only); first | (rw [dropS_step_in hz_l_i c1, ← f2]; done) | (rw [dropS_step_out hz_l_i c1, ← f2]; done)), (by (try dsimp only); first | omega | (simp; omega))⟩, (by first | (simp only []; omega) | (simp; omega))⟩
      · skip
        refine WC.skip ?_
        refine block_normal ?_
        refine then_normal ?_
        refine WC.region ?_
        refine WL.val1 (R_move (v := .int .i64 (((i : Nat) : Int))) rfl) ?_
        refine WL.val1 (R_add_i (a := ((i : Nat) : Int)) (b := 1) rfl rfl (by omega)) ?_
        refine WL.val1 (R_assign (v := .int .i64 ((((i : Nat) : Int) + 1))) rfl) ?_
        refine WL.nil ?_
        refine then_normal ?_
        exact ⟨(i + 1, acc, acc_a, acc_c), ⟨rfl, rfl, (by first | rfl | (apply congrArg (Value.int .i64); omega) | simp), (by first | rfl | (apply congrArg (Value.int .i64); omega) | simp), trivial⟩, ⟨h5, hl6, hS3, (by (try dsimp only); first | assumption | omega | simp), (by (try dsimp only); first | (rw [dropS_step_in hz_l_i c1, ← f2]; done) | (rw [dropS_step_out hz_l_i c1, ← f2]; done)), (by (try dsimp only); first | omega | (simp; omega))⟩, (by first | (simp only []; omega) | (simp; omega))⟩
    · skip
      refine WC.exit ?_
      refine then_exit ?_
      refine then_exit ?_
      refine block_exit ?_
      refine then_normal ?_
      refine WC.seq ?_
      refine WC.region ?_
      refine WL.val1 (R_move (v := .slice (acc_a) (acc).length (acc_c)) rfl) ?_
      refine WL.val1 (R_move (v := .slice (acc_a) (acc).length (acc_c)) rfl) ?_
      refine WL.val1 (R_len_slice (n := (acc).length) rfl Tryz.underlying30) ?_
      refine WL.val1 (R_move (v := .slice (l_a) (l).length (l_c)) rfl) ?_
      refine WL.val1 (R_len_slice (n := (l).length) rfl Tryz.underlying30) ?_
      refine WL.val1 (R_lss (a := (((acc).length : Nat) : Int)) (b := (((l).length : Nat) : Int)) rfl rfl) ?_
      refine WL.val1 (R_assign (v := .slice (acc_a) (acc).length (acc_c)) rfl) ?_
      refine WL.val1 (R_assign (v := .bool (decide ((((acc).length : Nat) : Int) < (((l).length : Nat) : Int)))) rfl) ?_
      refine WL.nil ?_
      refine then_normal ?_
      refine WC.ret ?_
      refine top_ret (.tuple #[.slice (acc_a) (acc).length (acc_c), .bool (decide ((((acc).length : Nat) : Int) < (((l).length : Nat) : Int)))]) (gives2 rfl rfl rfl) ?_
      obtain ⟨h24, hl25, hs26, hS27⟩ := hS3.growCommit (i := 0) rfl (Hp.le_refl _)
      have e_ : dropS l n = acc := by rw [f2, List.take_of_length_le (by omega)]
      exact ⟨h24, (hl6.trans hl25), ⟨acc_a, acc_c, (by rw [e_]), (by first | exact hs26 | (rw [e_]; exact hs26))⟩, hS27.pop⟩
set_option maxHeartbeats 400000 in
theorem ref02_Put (l : List File) (l_a : Option Addr) (l_c : Nat) (f : File) (hl : l.length ≤ 1000000) (hn : f.name.length ≤ 9223372036854775807) : MutH GG Tryz.prog 36 (fun h => Sl RFile h l l_a l_c) [.slice (l_a) (l).length (l_c), .agg #[.string (B (f.name)), .string (B (f.text))]] (fun h => []) (fun h A v => ∃ (r_a : Option Addr) (r_c : Nat), v = .tuple #[.slice (r_a) ((putFS l f).1).length (r_c), .int .i64 ((putFS l f).2)] ∧ A = [grow 29 RFile h ((putFS l f).1) (r_a) (r_c)]) := by
  intro Γ h L w hpre hS
  have sl_l := hpre
  have hdl := dropS_len l f.name
  refine Ret.body Tryz.func36 rfl Tryz.ntmps36 (Nat.le_of_ble_eq_true rfl) ?_
  have hS : St Γ h (L) w := hS
  refine WC.seq ?_
  refine WC.region ?_
  refine S_box (l := [.string (B (f.name)), .string (B (f.text))]) (v := .agg #[.string (B (f.name)), .string (B (f.text))]) hS rfl rfl ?_
  intro w2 hS1
  refine WL.val1 (R_assign (v := .slice none 0 0) rfl) ?_
  refine WL.val1 (R_assign (v := .int .i64 (0)) rfl) ?_
  refine WL.nil ?_
  refine then_normal ?_
  refine WC.seq ?_
  refine WC.seq ?_
  refine WC.region ?_
  refine WL.val1 (R_fieldAddr (b := w.heap.size) (off := 0) (m := 0) rfl (fun _ => by kernel_rfl)) ?_
  refine WL.val1 (R_load (v := .string (B (f.name))) rfl (hS1.has (i := 0) rfl) (Tryz.isAgg9 _) rfl) ?_
  refine S_callP (vs := [.string (B (f.name))]) hS1 Tryz.call50 rfl (ref02_Name (f.name) (by first | assumption | omega)) trivial ?_
  intro w4 hS3
  refine WL.val1 (R_not (b := nameS f.name) rfl) ?_
  refine WL.nil ?_
  refine then_normal ?_
  refine WC.condI (¬ ((nameS f.name) = true)) (b := (!(nameS f.name))) rfl (b_not Iff.rfl) (fun c0 => ?_) (fun c0 => ?_)
  · skip
    refine WC.seq ?_
    refine WC.region ?_
    refine WL.val1 (R_assign (v := .slice none 0 0) rfl) ?_
    refine WL.val1 (R_assign (v := .int .i64 (2)) rfl) ?_
    refine WL.nil ?_
    refine then_normal ?_
    refine WC.ret ?_
    refine then_ret ?_
    refine top_ret (.tuple #[.slice none 0 0, .int .i64 (2)]) (gives2 rfl rfl rfl) ?_
    have e_ : putFS l f = ([], 2) := by rw [putFS, if_pos (by simpa using c0)]
    have hS5 := hS3.growNil 29 RFile h
    have hS6 : St Γ h (grow 29 RFile h (([] : List File)) (none) (0) :: L) w4 := ((hS5.move (i := 0) rfl).remove 1)
    exact ⟨[grow 29 RFile h (([] : List File)) (none) (0)], ⟨none, 0, (by first | rfl | (rw [e_]; done) | (rw [e_]; rfl) | (simp; done)), (by first | rfl | (rw [e_]; done) | (rw [e_]; rfl))⟩, hS6⟩
  · skip
    refine WC.skip ?_
    refine then_normal ?_
    refine WC.seq ?_
    refine WC.region ?_
    refine WL.val1 (R_move (v := .slice (l_a) (l).length (l_c)) rfl) ?_
    refine WL.val1 (R_fieldAddr (b := w.heap.size) (off := 0) (m := 0) rfl (fun _ => by kernel_rfl)) ?_
    refine WL.val1 (R_load (v := .string (B (f.name))) rfl (hS3.has (i := 0) rfl) (Tryz.isAgg9 _) rfl) ?_
    refine S_callF (vs := [.slice (l_a) (l).length (l_c), .string (B (f.name))]) hS3 Tryz.call52 rfl (ref02_Drop (l) (l_a) (l_c) (f.name) (by first | assumption | omega)) sl_l ?_
    intro h9 v11 w8 hl10 hp12 hS7
    obtain ⟨a13, c14, rfl, hf15⟩ := hp12
    refine WL.val1 (R_move (v := .tuple #[.slice (a13) ((dropS l f.name)).length (c14), .bool (decide ((((dropS l f.name).length : Nat) : Int) < (((l).length : Nat) : Int)))]) rfl) ?_
    refine WL.val1 (R_extract (vs := ([.slice (a13) ((dropS l f.name)).length (c14), .bool (decide ((((dropS l f.name).length : Nat) : Int) < (((l).length : Nat) : Int)))] : List Value).toArray) (v := .slice (a13) ((dropS l f.name)).length (c14)) rfl rfl) ?_
    refine WL.val1 (R_extract (vs := ([.slice (a13) ((dropS l f.name)).length (c14), .bool (decide ((((dropS l f.name).length : Nat) : Int) < (((l).length : Nat) : Int)))] : List Value).toArray) (v := .bool (decide ((((dropS l f.name).length : Nat) : Int) < (((l).length : Nat) : Int)))) rfl rfl) ?_
    refine WL.val1 (R_assign (v := .slice (a13) ((dropS l f.name)).length (c14)) rfl) ?_
    refine WL.val1 (R_assign (v := .bool (decide ((((dropS l f.name).length : Nat) : Int) < (((l).length : Nat) : Int)))) rfl) ?_
    refine WL.nil ?_
    refine then_normal ?_
    refine WC.seq ?_
    refine WC.seq ?_
    refine WC.region ?_
    refine WL.val1 (R_fieldAddr (b := w.heap.size) (off := 0) (m := 1) rfl (fun _ => by kernel_rfl)) ?_
    refine WL.val1 (R_load (v := .string (B (f.text))) rfl (hS7.has (i := 0) rfl) (Tryz.isAgg9 _) rfl) ?_
    refine WL.val1 (R_slen (a := f.text) rfl Tryz.underlying9) ?_
    refine WL.val1 (R_gtr (a := (((f.text).length : Nat) : Int)) (b := 4000) rfl rfl) ?_
    refine WL.val1 (R_move (v := .bool (decide (4000 < (((f.text).length : Nat) : Int)))) rfl) ?_
    refine WL.gpure (gd := (!(decide (4000 < (((f.text).length : Nat) : Int))))) (yl_f (d := 26) rfl rfl) (fun hg => R_move (v := .bool (decide ((((dropS l f.name).length : Nat) : Int) < (((l).length : Nat) : Int)))) rfl) ?_
    refine WL.gpure (gd := (!(decide (4000 < (((f.text).length : Nat) : Int))))) (yl_f (d := 26) rfl rfl) (fun hg => R_not (b := decide ((((dropS l f.name).length : Nat) : Int) < (((l).length : Nat) : Int))) (gvT hg rfl)) ?_
    refine WL.gpure (gd := (!(decide (4000 < (((f.text).length : Nat) : Int))))) (yl_f (d := 26) rfl rfl) (fun hg => R_move (v := .bool ((!(decide ((((dropS l f.name).length : Nat) : Int) < (((l).length : Nat) : Int)))))) (gvT hg rfl)) ?_
    refine WL.gpure (gd := (((!(decide (4000 < (((f.text).length : Nat) : Int))))) && ((!(decide ((((dropS l f.name).length : Nat) : Int) < (((l).length : Nat) : Int))))))) (ylg_t (d := 29) rfl rfl) (fun hg => R_move (v := .slice (l_a) (l).length (l_c)) rfl) ?_
    refine WL.gpure (gd := (((!(decide (4000 < (((f.text).length : Nat) : Int))))) && ((!(decide ((((dropS l f.name).length : Nat) : Int) < (((l).length : Nat) : Int))))))) (ylg_t (d := 29) rfl rfl) (fun hg => R_len_slice (n := (l).length) (gvT hg rfl) Tryz.underlying30) ?_
    refine WL.gpure (gd := (((!(decide (4000 < (((f.text).length : Nat) : Int))))) && ((!(decide ((((dropS l f.name).length : Nat) : Int) < (((l).length : Nat) : Int))))))) (ylg_t (d := 29) rfl rfl) (fun hg => R_geq (a := (((l).length : Nat) : Int)) (b := 32) (gvT hg rfl) rfl) ?_
    refine WL.gpure (gd := (!(decide (4000 < (((f.text).length : Nat) : Int))))) (yl_f (d := 26) rfl rfl) (fun hg => R_and (cb := (!(decide ((((dropS l f.name).length : Nat) : Int) < (((l).length : Nat) : Int))))) (yb := decide (32 ≤ (((l).length : Nat) : Int))) (gvT hg rfl) (gvA hg rfl) rfl) ?_
    refine WL.val1 (R_or (cb := decide (4000 < (((f.text).length : Nat) : Int))) (yb := ((!(decide ((((dropS l f.name).length : Nat) : Int) < (((l).length : Nat) : Int)))) && decide (32 ≤ (((l).length : Nat) : Int)))) rfl rfl rfl) ?_
    refine WL.nil ?_
    refine then_normal ?_
    refine WC.condI ((4000 < (((f.text).length : Nat) : Int) ∨ (¬ ((((dropS l f.name).length : Nat) : Int) < (((l).length : Nat) : Int)) ∧ 32 ≤ (((l).length : Nat) : Int)))) (b := (decide (4000 < (((f.text).length : Nat) : Int)) || ((!(decide ((((dropS l f.name).length : Nat) : Int) < (((l).length : Nat) : Int)))) && decide (32 ≤ (((l).length : Nat) : Int))))) rfl (b_or b_dec (b_and (b_not b_dec) b_dec)) (fun c1 => ?_) (fun c1 => ?_)
    · skip
      refine WC.seq ?_
      refine WC.region ?_
      refine WL.val1 (R_assign (v := .slice none 0 0) rfl) ?_
      refine WL.val1 (R_assign (v := .int .i64 (3)) rfl) ?_
      refine WL.nil ?_
      refine then_normal ?_
      refine WC.ret ?_
      refine then_ret ?_
      refine top_ret (.tuple #[.slice none 0 0, .int .i64 (3)]) (gives2 rfl rfl rfl) ?_
      have e_ : putFS l f = ([], 3) := by rw [putFS, if_neg (by simpa using c0), if_pos (by omega)]
      have hS16 := hS7.growNil 29 RFile h9
      have hS17 : St Γ h9 (grow 29 RFile h9 (([] : List File)) (none) (0) :: L) w8 := ((hS16.move (i := 0) rfl).remove 1)
      exact ⟨[grow 29 RFile h (([] : List File)) (none) (0)], ⟨none, 0, (by first | rfl | (rw [e_]; done) | (rw [e_]; rfl) | (simp; done)), (by first | rfl | (rw [e_]; done) | (rw [e_]; rfl))⟩, ((hS17.growFree (i := 0) h RFile_free rfl).weaken_h hl10)⟩
    · skip
      refine WC.skip ?_
      refine then_normal ?_
      refine WC.seq ?_
      refine WC.region ?_
      refine S_buildSlice0 (R := RFile) (e := 29) hS7 Tryz.underlying30 (Tryz.sizeOf29) ?_
      intro w19 hS18
      refine WL.val1 (R_assign (v := .slice (some ⟨w8.heap.size, 0, none⟩) 0 (0)) rfl) ?_
      refine WL.nil ?_
      refine then_normal ?_
      refine WC.seq ?_
      refine WC.seq ?_
      refine WC.region ?_
      refine WL.val1 (R_assign (v := .int .i64 (0)) rfl) ?_
      refine WL.nil ?_
      refine then_normal ?_
      refine WC.block ?_
      refine WC.loopL (σ := Nat × (List File) × (Option Addr) × Nat)
        (fun (q_ : Nat × (List File) × (Option Addr) × Nat) => (fun (i : Nat) (acc : List File) (acc_a : Option Addr) (acc_c : Nat) => [(3, .pointer (some ⟨w.heap.size, 0, none⟩)), (6, .slice (a13) ((dropS l f.name)).length (c14)), (8, .slice (acc_a) (acc).length (acc_c)), (9, .int .i64 (((i : Nat) : Int)))]) (q_.1) (q_.2.1) (q_.2.2.1) (q_.2.2.2))
        (fun (q_ : Nat × (List File) × (Option Addr) × Nat) (w_ : World) => (fun (i : Nat) (acc : List File) (acc_a : Option Addr) (acc_c : Nat) => ∃ h22 : Hp, h9.le h22 ∧ St Γ h22 (grow 29 RFile h22 (acc) (acc_a) (acc_c) :: row (w.heap.size) [.string (B (f.name)), .string (B (f.text))] 29 :: L) w_ ∧ (i ≤ (dropS l f.name).length) ∧ (acc ++ lessW ((dropS l f.name).drop i) f.name = lessW (dropS l f.name) f.name) ∧ (acc.length = i)) (q_.1) (q_.2.1) (q_.2.2.1) (q_.2.2.2))
        (fun (q_ : Nat × (List File) × (Option Addr) × Nat) => (fun (i : Nat) (acc : List File) (acc_a : Option Addr) (acc_c : Nat) => (dropS l f.name).length - i) (q_.1) (q_.2.1) (q_.2.2.1) (q_.2.2.2)) (0, ([] : List File), some ⟨w8.heap.size, 0, none⟩, 0) ?_ ?_ ?_
      · exact ⟨rfl, rfl, (by first | rfl | (apply congrArg (Value.int .i64); omega) | simp), (by first | rfl | (apply congrArg (Value.int .i64); omega) | simp), trivial⟩
      · exact ⟨h9, Hp.le_refl _, hS18, (by first | assumption | omega | simp), (by rfl), (by first | assumption | omega | simp)⟩
      · rintro ⟨i, acc, acc_a, acc_c⟩ r24 w21 ⟨h22, hl23, hS20, f1, f2, f3⟩
        try dsimp only at f1 f2 f3
        refine WC.seq ?_
        refine WC.seq ?_
        by_cases hlo : i < (dropS l f.name).length
        · skip
          obtain ⟨z_dropS_l_f_name_i, hz_dropS_l_f_name_i⟩ : ∃ z, ((dropS l f.name))[i]? = some z := ⟨_, List.getElem?_eq_getElem (by omega)⟩
          obtain ⟨b57, o58, cs62, ha59, hr60, hat61⟩ := (hf15.mono hl23).2 i z_dropS_l_f_name_i hz_dropS_l_f_name_i
          subst hr60
          refine WC.draw 12 [(3, .pointer (some ⟨w.heap.size, 0, none⟩)), (6, .slice (a13) ((dropS l f.name)).length (c14)), (8, .slice (acc_a) (acc).length (acc_c)), (9, .int .i64 (((i : Nat) : Int)))] [fun _ v => v = .int .i64 (((i : Nat) : Int)), fun _ v => v = .slice (a13) ((dropS l f.name)).length (c14), fun _ v => v = .int .i64 (((((dropS l f.name)).length : Nat) : Int)), fun _ v => v = .bool (true), fun _ v => v = .bool (true), fun _ v => v = .slice (a13) ((dropS l f.name)).length (c14), fun _ v => v = .int .i64 (((i : Nat) : Int)), fun _ v => v = .pointer (some ⟨b57, (o58 + i * RFile.n), none⟩), fun _ v => v = .pointer (some ⟨b57, (o58 + i * RFile.n), none⟩), fun _ v => v = .string (B (z_dropS_l_f_name_i.name)), fun _ v => v = .pointer (some ⟨w.heap.size, 0, none⟩), fun _ v => v = .string (B (f.name))] hS20 (by kernel_rfl) (by kernel_rfl) (MonoFs.pure (MonoFs.pure (MonoFs.pure (MonoFs.pure (MonoFs.pure (MonoFs.pure (MonoFs.pure (MonoFs.pure (MonoFs.pure (MonoFs.pure (MonoFs.pure (MonoFs.pure MonoFs.nil)))))))))))) ⟨rfl, rfl, rfl, rfl, trivial⟩ ⟨?_, ?_, ?_, ?_, ?_, ?_, ?_, ?_, ?_, ?_, ?_, ?_, trivial⟩ ?_
          · intro r_ w80 h81 hl82 hS79 hb_ hp_
            obtain ⟨b0_, b1_, b2_, b3_, _⟩ := hb_
            refine WL.val1 (R_move (v := .int .i64 (((i : Nat) : Int))) b3_) ?_
            refine WL.nil ?_
            exact ⟨rfl, _, _, rfl, (Hp.le_refl _), rfl, hS79⟩
          · intro r_ w84 h85 hl86 hS83 hb_ hp_
            obtain ⟨b0_, b1_, b2_, b3_, _⟩ := hb_
            refine WL.val1 (R_move (v := .slice (a13) ((dropS l f.name)).length (c14)) b1_) ?_
            refine WL.nil ?_
            exact ⟨rfl, _, _, rfl, (Hp.le_refl _), rfl, hS83⟩
          · intro r_ w88 h89 hl90 hS87 hb_ hp_
            obtain ⟨b0_, b1_, b2_, b3_, _⟩ := hb_
            obtain ⟨p0_, _⟩ := hp_
            have p0_ : r_ 37 = .slice (a13) ((dropS l f.name)).length (c14) := p0_
            refine WL.val1 (R_len_slice (n := ((dropS l f.name)).length) p0_ Tryz.underlying30) ?_
            refine WL.nil ?_
            exact ⟨rfl, _, _, rfl, (Hp.le_refl _), rfl, hS87⟩
          · intro r_ w92 h93 hl94 hS91 hb_ hp_
            obtain ⟨b0_, b1_, b2_, b3_, _⟩ := hb_
            obtain ⟨p0_, p1_, _⟩ := hp_
            have p0_ : r_ 36 = .int .i64 (((i : Nat) : Int)) := p0_
            have p1_ : r_ 38 = .int .i64 (((((dropS l f.name)).length : Nat) : Int)) := p1_
            refine WL.val1 (R_cast (R_lss (a := ((i : Nat) : Int)) (b := ((((dropS l f.name)).length : Nat) : Int)) p0_ p1_) (bool_true (by exact decide_eq_true (by omega)))) ?_
            refine WL.nil ?_
            exact ⟨rfl, _, _, rfl, (Hp.le_refl _), rfl, hS91⟩
          · intro r_ w96 h97 hl98 hS95 hb_ hp_
            obtain ⟨b0_, b1_, b2_, b3_, _⟩ := hb_
            obtain ⟨p0_, _⟩ := hp_
            have p0_ : r_ 39 = .bool (true) := p0_
            refine WL.val1 (R_move (v := .bool (true)) p0_) ?_
            refine WL.nil ?_
            exact ⟨rfl, _, _, rfl, (Hp.le_refl _), rfl, hS95⟩
          · intro r_ w100 h101 hl102 hS99 hb_ hp_
            obtain ⟨b0_, b1_, b2_, b3_, _⟩ := hb_
            obtain ⟨p0_, _⟩ := hp_
            have p0_ : r_ 40 = .bool (true) := p0_
            refine WL_unguard (yl_eq (d := 40) rfl p0_) ?_
            refine WL.val1 (R_move (v := .slice (a13) ((dropS l f.name)).length (c14)) b1_) ?_
            refine WL.nil ?_
            exact ⟨rfl, _, _, rfl, (Hp.le_refl _), rfl, hS99⟩
          · intro r_ w104 h105 hl106 hS103 hb_ hp_
            obtain ⟨b0_, b1_, b2_, b3_, _⟩ := hb_
            obtain ⟨p0_, _⟩ := hp_
            have p0_ : r_ 40 = .bool (true) := p0_
            refine WL_unguard (yl_eq (d := 40) rfl p0_) ?_
            refine WL.val1 (R_move (v := .int .i64 (((i : Nat) : Int))) b3_) ?_
            refine WL.nil ?_
            exact ⟨rfl, _, _, rfl, (Hp.le_refl _), rfl, hS103⟩
          · intro r_ w108 h109 hl110 hS107 hb_ hp_
            obtain ⟨b0_, b1_, b2_, b3_, _⟩ := hb_
            obtain ⟨p0_, p1_, p2_, _⟩ := hp_
            have p0_ : r_ 41 = .slice (a13) ((dropS l f.name)).length (c14) := p0_
            have p1_ : r_ 42 = .int .i64 (((i : Nat) : Int)) := p1_
            have p2_ : r_ 40 = .bool (true) := p2_
            refine WL_unguard (yl_eq (d := 40) rfl p2_) ?_
            refine WL.val1 (R_indexAddrE (i := ((i : Nat) : Int)) (m := i) ha59 p0_ p1_ Tryz.underlying30 (Tryz.sizeOf29 _) (by first | rfl | (omega)) (by omega)) ?_
            refine WL.nil ?_
            exact ⟨rfl, _, _, rfl, (Hp.le_refl _), rfl, hS107⟩
          · intro r_ w112 h113 hl114 hS111 hb_ hp_
            obtain ⟨b0_, b1_, b2_, b3_, _⟩ := hb_
            obtain ⟨p0_, p1_, _⟩ := hp_
            have p0_ : r_ 43 = .pointer (some ⟨b57, (o58 + i * RFile.n), none⟩) := p0_
            have p1_ : r_ 40 = .bool (true) := p1_
            refine WL_unguard (yl_eq (d := 40) rfl p1_) ?_
            refine WL.val1 (R_fieldAddr (b := b57) (off := (o58 + i * RFile.n)) (m := 0) p0_ (fun _ => by kernel_rfl)) ?_
            refine WL.nil ?_
            exact ⟨rfl, _, _, rfl, (Hp.le_refl _), rfl, hS111⟩
          · intro r_ w116 h117 hl118 hS115 hb_ hp_
            obtain ⟨b0_, b1_, b2_, b3_, _⟩ := hb_
            obtain ⟨p0_, p1_, _⟩ := hp_
            have p0_ : r_ 44 = .pointer (some ⟨b57, (o58 + i * RFile.n), none⟩) := p0_
            have p1_ : r_ 40 = .bool (true) := p1_
            refine WL_unguard (yl_eq (d := 40) rfl p1_) ?_
            refine WL.val1 (R_loadC (v := .string (B (z_dropS_l_f_name_i.name))) hS115 p0_ ((hat61.mono hl118).sub 0 1 (cs' := [.string (B (z_dropS_l_f_name_i.name))]) rfl) Tryz.isAgg9 rfl) ?_
            refine WL.nil ?_
            exact ⟨rfl, _, _, rfl, (Hp.le_refl _), rfl, hS115⟩
          · intro r_ w120 h121 hl122 hS119 hb_ hp_
            obtain ⟨b0_, b1_, b2_, b3_, _⟩ := hb_
            obtain ⟨p0_, _⟩ := hp_
            have p0_ : r_ 40 = .bool (true) := p0_
            refine WL_unguard (yl_eq (d := 40) rfl p0_) ?_
            refine WL.val1 (R_fieldAddr (b := w.heap.size) (off := 0) (m := 0) b0_ (fun _ => by kernel_rfl)) ?_
            refine WL.nil ?_
            exact ⟨rfl, _, _, rfl, (Hp.le_refl _), rfl, hS119⟩
          · intro r_ w124 h125 hl126 hS123 hb_ hp_
            obtain ⟨b0_, b1_, b2_, b3_, _⟩ := hb_
            obtain ⟨p0_, p1_, _⟩ := hp_
            have p0_ : r_ 46 = .pointer (some ⟨w.heap.size, 0, none⟩) := p0_
            have p1_ : r_ 40 = .bool (true) := p1_
            refine WL_unguard (yl_eq (d := 40) rfl p1_) ?_
            refine WL.val1 (R_load (v := .string (B (f.name))) p0_ (hS123.has (i := 1) rfl) (Tryz.isAgg9 _) rfl) ?_
            refine WL.nil ?_
            exact ⟨rfl, _, _, rfl, (Hp.le_refl _), rfl, hS123⟩
          · intro r_ w128 h129 hl130 hS127 hb_ hf_
            obtain ⟨b0_, b1_, b2_, b3_, _⟩ := hb_
            have q4_ := AF.get hf_ 4 (d := 40) rfl rfl
            have q9_ := AF.get hf_ 9 (d := 45) rfl rfl
            have q11_ := AF.get hf_ 11 (d := 47) rfl rfl
            refine WL.frame [(3, .pointer (some ⟨w.heap.size, 0, none⟩)), (6, .slice (a13) ((dropS l f.name)).length (c14)), (8, .slice (acc_a) (acc).length (acc_c)), (9, .int .i64 (((i : Nat) : Int))), (40, .bool (true)), (45, .string (B (z_dropS_l_f_name_i.name))), (47, .string (B (f.name)))] ⟨b0_, b1_, b2_, b3_, q4_, q9_, q11_, trivial⟩ (fun r_ => ?_)
            refine WL_unguard (yl_eq (d := 40) rfl rfl) ?_
            refine WL.val1 (R_slss (a := z_dropS_l_f_name_i.name) (b := f.name) rfl rfl) ?_
            refine WL.val1 (R_pick (cb := true) (v := .bool (Op.bytesLess z_dropS_l_f_name_i.name f.name)) rfl (fun _ => rfl) (fun h => by cases h)) ?_
            refine WL.nil ?_
            refine then_normal ?_
            refine WC.condI ((Op.bytesLess z_dropS_l_f_name_i.name f.name) = true) (b := Op.bytesLess z_dropS_l_f_name_i.name f.name) rfl Iff.rfl (fun c2 => ?_) (fun c2 => ?_)
            · skip
              refine WC.skip ?_
              refine then_normal ?_
              refine WC.seq ?_
              refine WC.block ?_
              refine WC.region ?_
              refine WL.val1 (R_move (v := .slice (acc_a) (acc).length (acc_c)) rfl) ?_
              refine WL.val1 (R_move (v := .slice (a13) ((dropS l f.name)).length (c14)) rfl) ?_
              refine WL.val1 (R_move (v := .int .i64 (((i : Nat) : Int))) rfl) ?_
              refine WL.val1 (R_indexAddrE (i := ((i : Nat) : Int)) (m := i) ha59 rfl rfl Tryz.underlying30 (Tryz.sizeOf29 _) (by first | rfl | (omega)) (by omega)) ?_
              refine WL.val1 (R_loadCA (cs := [.string (B (z_dropS_l_f_name_i.name)), .string (B (z_dropS_l_f_name_i.text))]) hS127 rfl (hat61.mono hl130) Tryz.isAgg29 Tryz.sizeOf29 rfl) ?_
              refine S_buildSliceC (R := RFile) (m := 1) (vs := [(0, .agg #[.string (B (z_dropS_l_f_name_i.name)), .string (B (z_dropS_l_f_name_i.text))])]) (cells := [.string (B (z_dropS_l_f_name_i.name)), .string (B (z_dropS_l_f_name_i.text))]) (xs := [z_dropS_l_f_name_i]) hS127 Tryz.underlying30 Tryz.sizeOf29 Tryz.zeroValue29 (by decide) (by decide) rfl (by kernel_rfl) (by exact (⟨[.string (B (z_dropS_l_f_name_i.name)), .string (B (z_dropS_l_f_name_i.text))], _, rfl, rfl, rfl⟩ : Flat RFile _ [z_dropS_l_f_name_i] _)) rfl ?_
              intro h133 b135 w132 hl134 hs136 hS131
              refine S_append (info := Tryz.t29) (R := RFile) (xs := acc) (ys := [z_dropS_l_f_name_i]) (a := acc_a) (c := acc_c) 0 Tryz.underlying30 (by kernel_rfl) rfl rfl rfl (by decide) 32 rfl hS131 rfl (hl130.trans hl134) hs136 rfl rfl (by (try simp only [List.length_append, List.length_cons, List.length_nil]); omega) (by (try simp only [List.length_append, List.length_cons, List.length_nil]); omega) ?_
              intro a137 c138 w139 hS140
              refine WL.val1 (R_assign (v := .slice (a137) ((acc ++ [z_dropS_l_f_name_i])).length (c138)) rfl) ?_
              refine WL.nil ?_
              refine block_normal ?_
              refine then_normal ?_
              refine WC.region ?_
              refine WL.val1 (R_move (v := .int .i64 (((i : Nat) : Int))) rfl) ?_
              refine WL.val1 (R_add_i (a := ((i : Nat) : Int)) (b := 1) rfl rfl (by omega)) ?_
              refine WL.val1 (R_assign (v := .int .i64 ((((i : Nat) : Int) + 1))) rfl) ?_
              refine WL.nil ?_
              refine then_normal ?_
              exact ⟨(i + 1, (acc ++ [z_dropS_l_f_name_i]), a137, c138), ⟨rfl, rfl, (by first | rfl | (apply congrArg (Value.int .i64); omega) | simp), (by first | rfl | (apply congrArg (Value.int .i64); omega) | simp), trivial⟩, ⟨h133, ((hl23.trans hl130).trans hl134), hS140, (by (try dsimp only); first | assumption | omega | simp), (by (try dsimp only); rw [← f2, lessW_step hz_dropS_l_f_name_i c2]; (try simp only [List.append_assoc, List.cons_append, List.nil_append])), (by (try dsimp only); simp; omega)⟩, (by first | (simp only []; omega) | (simp; omega))⟩
            · skip
              refine WC.exit ?_
              refine then_exit ?_
              refine then_exit ?_
              refine block_exit ?_
              refine then_normal ?_
              refine WC.seq ?_
              refine WC.region ?_
              refine WL.val1 (R_move (v := .slice (acc_a) (acc).length (acc_c)) rfl) ?_
              refine WL.val1 (R_len_slice (n := (acc).length) rfl Tryz.underlying30) ?_
              refine WL.val1 (R_assign (v := .int .i64 ((((acc).length : Nat) : Int))) rfl) ?_
              refine WL.nil ?_
              refine then_normal ?_
              refine WC.seq ?_
              refine WC.region ?_
              refine WL.val1 (R_move (v := .slice (acc_a) (acc).length (acc_c)) rfl) ?_
              refine WL.val1 (R_loadA (cs := [.string (B (f.name)), .string (B (f.text))]) rfl (hS127.has (i := 1) rfl) (Tryz.isAgg29 _) (Tryz.sizeOf29 _) rfl (sub_cells rfl)) ?_
              refine S_buildSliceC (R := RFile) (m := 1) (vs := [(0, .agg #[.string (B (f.name)), .string (B (f.text))])]) (cells := [.string (B (f.name)), .string (B (f.text))]) (xs := [f]) hS127 Tryz.underlying30 Tryz.sizeOf29 Tryz.zeroValue29 (by decide) (by decide) rfl (by kernel_rfl) (by exact (⟨[.string (B (f.name)), .string (B (f.text))], _, rfl, rfl, rfl⟩ : Flat RFile _ [f] _)) rfl ?_
              intro h143 b145 w142 hl144 hs146 hS141
              refine S_append (info := Tryz.t29) (R := RFile) (xs := acc) (ys := [f]) (a := acc_a) (c := acc_c) 0 Tryz.underlying30 (by kernel_rfl) rfl rfl rfl (by decide) 32 rfl hS141 rfl (hl130.trans hl144) hs146 rfl rfl (by (try simp only [List.length_append, List.length_cons, List.length_nil]); omega) (by (try simp only [List.length_append, List.length_cons, List.length_nil]); omega) ?_
              intro a147 c148 w149 hS150
              refine WL.val1 (R_assign (v := .slice (a147) ((acc ++ [f])).length (c148)) rfl) ?_
              refine WL.nil ?_
              refine then_normal ?_
              refine WC.seq ?_
              refine WC.region ?_
              refine WL.val1 (R_move (v := .slice (a147) ((acc ++ [f])).length (c148)) rfl) ?_
              refine WL.val1 (R_move (v := .slice (a13) ((dropS l f.name)).length (c14)) rfl) ?_
              refine WL.val1 (R_move (v := .int .i64 ((((acc).length : Nat) : Int))) rfl) ?_
              obtain ⟨a151, ha152⟩ : ∃ a_ : Option Addr, a_ = (if c14 = (acc).length then a13 else (a13 : Option Addr).map (·.add ((acc).length * 2))) := ⟨_, rfl⟩
              have hs153 := (by rw [ha152]; exact ((hf15.mono ((hl23.trans hl130).trans hl144)).from (acc).length (by omega)) : Sl RFile h143 ((dropS l f.name).drop (acc).length) a151 ((c14 - (acc).length)))
              refine WL.val1 (R_cast (v' := .slice (a151) (((dropS l f.name).drop (acc).length)).length ((c14 - (acc).length))) (R_sll (m := (acc).length) rfl rfl Tryz.underlying30 (Tryz.sizeOf29 _) (by first | rfl | (omega)) (by omega)) (by rw [ha152]; exact congrArg (fun q_ => Value.slice _ q_ _) (by (try simp only [List.length_drop, List.length_append, List.length_cons, List.length_nil]); try omega))) ?_
              refine S_append (info := Tryz.t29) (R := RFile) (xs := (acc ++ [f])) (ys := ((dropS l f.name).drop (acc).length)) (a := a147) (c := c148) 0 Tryz.underlying30 (by kernel_rfl) rfl rfl rfl (by decide) 32 rfl hS150 rfl (Hp.le_refl _) hs153 rfl rfl (by (try simp only [List.length_append, List.length_cons, List.length_nil, List.length_drop]); omega) (by (try simp only [List.length_append, List.length_cons, List.length_nil, List.length_drop]); omega) ?_
              intro a154 c155 w156 hS157
              refine WL.val1 (R_assign (v := .slice (a154) (((acc ++ [f]) ++ ((dropS l f.name).drop (acc).length))).length (c155)) rfl) ?_
              refine WL.nil ?_
              refine then_normal ?_
              refine WC.seq ?_
              refine WC.region ?_
              refine WL.val1 (R_move (v := .slice (a154) (((acc ++ [f]) ++ ((dropS l f.name).drop (acc).length))).length (c155)) rfl) ?_
              refine WL.val1 (R_assign (v := .slice (a154) (((acc ++ [f]) ++ ((dropS l f.name).drop (acc).length))).length (c155)) rfl) ?_
              refine WL.val1 (R_assign (v := .int .i64 (0)) rfl) ?_
              refine WL.nil ?_
              refine then_normal ?_
              refine WC.ret ?_
              refine top_ret (.tuple #[.slice (a154) (((acc ++ [f]) ++ ((dropS l f.name).drop (acc).length))).length (c155), .int .i64 (0)]) (gives2 rfl rfl rfl) ?_
              have e1_ : lessW (dropS l f.name) f.name = acc := by rw [← f2, lessW_stop (fun x hx => by rw [hz_dropS_l_f_name_i] at hx; injection hx with hx; subst hx; exact bool_no c2), List.append_nil]
              have e_ : putFS l f = (acc ++ [f] ++ (dropS l f.name).drop acc.length, 0) := by rw [putFS, if_neg (by simpa using c0), if_neg (by omega), e1_]
              have hS158 : St Γ h143 (grow 29 RFile h143 (((acc ++ [f]) ++ ((dropS l f.name).drop (acc).length))) (a154) (c155) :: L) w156 := ((hS157.move (i := 0) rfl).remove 1)
              exact ⟨[grow 29 RFile h (((acc ++ [f]) ++ ((dropS l f.name).drop (acc).length))) (a154) (c155)], ⟨a154, c155, (by first | rfl | (rw [e_]; done) | (rw [e_]; rfl) | (simp; done)), (by first | rfl | (rw [e_]; done) | (rw [e_]; rfl))⟩, ((hS158.growFree (i := 0) h RFile_free rfl).weaken_h (((hl10.trans hl23).trans hl130).trans hl144))⟩
        · skip
          refine WC.draw 12 [(3, .pointer (some ⟨w.heap.size, 0, none⟩)), (6, .slice (a13) ((dropS l f.name)).length (c14)), (8, .slice (acc_a) (acc).length (acc_c)), (9, .int .i64 (((i : Nat) : Int)))] [fun _ v => v = .int .i64 (((i : Nat) : Int)), fun _ v => v = .slice (a13) ((dropS l f.name)).length (c14), fun _ v => v = .int .i64 (((((dropS l f.name)).length : Nat) : Int)), fun _ v => v = .bool (false), fun _ v => v = .bool (false), fun _ v => v = undef, fun _ v => v = undef, fun _ v => v = undef, fun _ v => v = undef, fun _ v => v = undef, fun _ v => v = undef, fun _ v => v = undef] hS20 (by kernel_rfl) (by kernel_rfl) (MonoFs.pure (MonoFs.pure (MonoFs.pure (MonoFs.pure (MonoFs.pure (MonoFs.pure (MonoFs.pure (MonoFs.pure (MonoFs.pure (MonoFs.pure (MonoFs.pure (MonoFs.pure MonoFs.nil)))))))))))) ⟨rfl, rfl, rfl, rfl, trivial⟩ ⟨?_, ?_, ?_, ?_, ?_, ?_, ?_, ?_, ?_, ?_, ?_, ?_, trivial⟩ ?_
          · intro r_ w208 h209 hl210 hS207 hb_ hp_
            obtain ⟨b0_, b1_, b2_, b3_, _⟩ := hb_
            refine WL.val1 (R_move (v := .int .i64 (((i : Nat) : Int))) b3_) ?_
            refine WL.nil ?_
            exact ⟨rfl, _, _, rfl, (Hp.le_refl _), rfl, hS207⟩
          · intro r_ w212 h213 hl214 hS211 hb_ hp_
            obtain ⟨b0_, b1_, b2_, b3_, _⟩ := hb_
            refine WL.val1 (R_move (v := .slice (a13) ((dropS l f.name)).length (c14)) b1_) ?_
            refine WL.nil ?_
            exact ⟨rfl, _, _, rfl, (Hp.le_refl _), rfl, hS211⟩
          · intro r_ w216 h217 hl218 hS215 hb_ hp_
            obtain ⟨b0_, b1_, b2_, b3_, _⟩ := hb_
            obtain ⟨p0_, _⟩ := hp_
            have p0_ : r_ 37 = .slice (a13) ((dropS l f.name)).length (c14) := p0_
            refine WL.val1 (R_len_slice (n := ((dropS l f.name)).length) p0_ Tryz.underlying30) ?_
            refine WL.nil ?_
            exact ⟨rfl, _, _, rfl, (Hp.le_refl _), rfl, hS215⟩
          · intro r_ w220 h221 hl222 hS219 hb_ hp_
            obtain ⟨b0_, b1_, b2_, b3_, _⟩ := hb_
            obtain ⟨p0_, p1_, _⟩ := hp_
            have p0_ : r_ 36 = .int .i64 (((i : Nat) : Int)) := p0_
            have p1_ : r_ 38 = .int .i64 (((((dropS l f.name)).length : Nat) : Int)) := p1_
            refine WL.val1 (R_cast (R_lss (a := ((i : Nat) : Int)) (b := ((((dropS l f.name)).length : Nat) : Int)) p0_ p1_) (bool_false (by exact decide_eq_false (by omega)))) ?_
            refine WL.nil ?_
            exact ⟨rfl, _, _, rfl, (Hp.le_refl _), rfl, hS219⟩
          · intro r_ w224 h225 hl226 hS223 hb_ hp_
            obtain ⟨b0_, b1_, b2_, b3_, _⟩ := hb_
            obtain ⟨p0_, _⟩ := hp_
            have p0_ : r_ 39 = .bool (false) := p0_
            refine WL.val1 (R_move (v := .bool (false)) p0_) ?_
            refine WL.nil ?_
            exact ⟨rfl, _, _, rfl, (Hp.le_refl _), rfl, hS223⟩
          · intro r_ w228 h229 hl230 hS227 hb_ hp_
            obtain ⟨b0_, b1_, b2_, b3_, _⟩ := hb_
            obtain ⟨p0_, _⟩ := hp_
            have p0_ : r_ 40 = .bool (false) := p0_
            refine WL.skip (.inl (yl_eq (d := 40) rfl p0_)) ?_
            refine WL.nil ?_
            exact ⟨rfl, _, _, rfl, (Hp.le_refl _), rfl, hS227⟩
          · intro r_ w232 h233 hl234 hS231 hb_ hp_
            obtain ⟨b0_, b1_, b2_, b3_, _⟩ := hb_
            obtain ⟨p0_, _⟩ := hp_
            have p0_ : r_ 40 = .bool (false) := p0_
            refine WL.skip (.inl (yl_eq (d := 40) rfl p0_)) ?_
            refine WL.nil ?_
            exact ⟨rfl, _, _, rfl, (Hp.le_refl _), rfl, hS231⟩
          · intro r_ w236 h237 hl238 hS235 hb_ hp_
            obtain ⟨b0_, b1_, b2_, b3_, _⟩ := hb_
            obtain ⟨p0_, p1_, p2_, _⟩ := hp_
            have p0_ : r_ 41 = undef := p0_
            have p1_ : r_ 42 = undef := p1_
            have p2_ : r_ 40 = .bool (false) := p2_
            refine WL.skip (.inl (yl_eq (d := 40) rfl p2_)) ?_
            refine WL.nil ?_
            exact ⟨rfl, _, _, rfl, (Hp.le_refl _), rfl, hS235⟩
          · intro r_ w240 h241 hl242 hS239 hb_ hp_
            obtain ⟨b0_, b1_, b2_, b3_, _⟩ := hb_
            obtain ⟨p0_, p1_, _⟩ := hp_
            have p0_ : r_ 43 = undef := p0_
            have p1_ : r_ 40 = .bool (false) := p1_
            refine WL.skip (.inl (yl_eq (d := 40) rfl p1_)) ?_
            refine WL.nil ?_
            exact ⟨rfl, _, _, rfl, (Hp.le_refl _), rfl, hS239⟩
          · intro r_ w244 h245 hl246 hS243 hb_ hp_
            obtain ⟨b0_, b1_, b2_, b3_, _⟩ := hb_
            obtain ⟨p0_, p1_, _⟩ := hp_
            have p0_ : r_ 44 = undef := p0_
            have p1_ : r_ 40 = .bool (false) := p1_
            refine WL.skip (.inl (yl_eq (d := 40) rfl p1_)) ?_
            refine WL.nil ?_
            exact ⟨rfl, _, _, rfl, (Hp.le_refl _), rfl, hS243⟩
          · intro r_ w248 h249 hl250 hS247 hb_ hp_
            obtain ⟨b0_, b1_, b2_, b3_, _⟩ := hb_
            obtain ⟨p0_, _⟩ := hp_
            have p0_ : r_ 40 = .bool (false) := p0_
            refine WL.skip (.inl (yl_eq (d := 40) rfl p0_)) ?_
            refine WL.nil ?_
            exact ⟨rfl, _, _, rfl, (Hp.le_refl _), rfl, hS247⟩
          · intro r_ w252 h253 hl254 hS251 hb_ hp_
            obtain ⟨b0_, b1_, b2_, b3_, _⟩ := hb_
            obtain ⟨p0_, p1_, _⟩ := hp_
            have p0_ : r_ 46 = undef := p0_
            have p1_ : r_ 40 = .bool (false) := p1_
            refine WL.skip (.inl (yl_eq (d := 40) rfl p1_)) ?_
            refine WL.nil ?_
            exact ⟨rfl, _, _, rfl, (Hp.le_refl _), rfl, hS251⟩
          · intro r_ w256 h257 hl258 hS255 hb_ hf_
            obtain ⟨b0_, b1_, b2_, b3_, _⟩ := hb_
            have q4_ := AF.get hf_ 4 (d := 40) rfl rfl
            have q9_ := AF.get hf_ 9 (d := 45) rfl rfl
            have q11_ := AF.get hf_ 11 (d := 47) rfl rfl
            refine WL.frame [(3, .pointer (some ⟨w.heap.size, 0, none⟩)), (6, .slice (a13) ((dropS l f.name)).length (c14)), (8, .slice (acc_a) (acc).length (acc_c)), (9, .int .i64 (((i : Nat) : Int))), (40, .bool (false)), (45, undef), (47, undef)] ⟨b0_, b1_, b2_, b3_, q4_, q9_, q11_, trivial⟩ (fun r_ => ?_)
            refine WL.skip (.inl (yl_eq (d := 40) rfl rfl)) ?_
            refine WL.val1 (R_pick (cb := false) (v := .bool (false)) rfl (fun h => by cases h) (fun _ => rfl)) ?_
            refine WL.nil ?_
            refine then_normal ?_
            refine WC.condF rfl ?_
            refine WC.exit ?_
            refine then_exit ?_
            refine then_exit ?_
            refine block_exit ?_
            refine then_normal ?_
            refine WC.seq ?_
            refine WC.region ?_
            refine WL.val1 (R_move (v := .slice (acc_a) (acc).length (acc_c)) rfl) ?_
            refine WL.val1 (R_len_slice (n := (acc).length) rfl Tryz.underlying30) ?_
            refine WL.val1 (R_assign (v := .int .i64 ((((acc).length : Nat) : Int))) rfl) ?_
            refine WL.nil ?_
            refine then_normal ?_
            refine WC.seq ?_
            refine WC.region ?_
            refine WL.val1 (R_move (v := .slice (acc_a) (acc).length (acc_c)) rfl) ?_
            refine WL.val1 (R_loadA (cs := [.string (B (f.name)), .string (B (f.text))]) rfl (hS255.has (i := 1) rfl) (Tryz.isAgg29 _) (Tryz.sizeOf29 _) rfl (sub_cells rfl)) ?_
            refine S_buildSliceC (R := RFile) (m := 1) (vs := [(0, .agg #[.string (B (f.name)), .string (B (f.text))])]) (cells := [.string (B (f.name)), .string (B (f.text))]) (xs := [f]) hS255 Tryz.underlying30 Tryz.sizeOf29 Tryz.zeroValue29 (by decide) (by decide) rfl (by kernel_rfl) (by exact (⟨[.string (B (f.name)), .string (B (f.text))], _, rfl, rfl, rfl⟩ : Flat RFile _ [f] _)) rfl ?_
            intro h261 b263 w260 hl262 hs264 hS259
            refine S_append (info := Tryz.t29) (R := RFile) (xs := acc) (ys := [f]) (a := acc_a) (c := acc_c) 0 Tryz.underlying30 (by kernel_rfl) rfl rfl rfl (by decide) 32 rfl hS259 rfl (hl258.trans hl262) hs264 rfl rfl (by (try simp only [List.length_append, List.length_cons, List.length_nil]); omega) (by (try simp only [List.length_append, List.length_cons, List.length_nil]); omega) ?_
            intro a265 c266 w267 hS268
            refine WL.val1 (R_assign (v := .slice (a265) ((acc ++ [f])).length (c266)) rfl) ?_
            refine WL.nil ?_
            refine then_normal ?_
            refine WC.seq ?_
            refine WC.region ?_
            refine WL.val1 (R_move (v := .slice (a265) ((acc ++ [f])).length (c266)) rfl) ?_
            refine WL.val1 (R_move (v := .slice (a13) ((dropS l f.name)).length (c14)) rfl) ?_
            refine WL.val1 (R_move (v := .int .i64 ((((acc).length : Nat) : Int))) rfl) ?_
            obtain ⟨a269, ha270⟩ : ∃ a_ : Option Addr, a_ = (if c14 = (acc).length then a13 else (a13 : Option Addr).map (·.add ((acc).length * 2))) := ⟨_, rfl⟩
            have hs271 := (by rw [ha270]; exact ((hf15.mono ((hl23.trans hl258).trans hl262)).from (acc).length (by omega)) : Sl RFile h261 ((dropS l f.name).drop (acc).length) a269 ((c14 - (acc).length)))
            refine WL.val1 (R_cast (v' := .slice (a269) (((dropS l f.name).drop (acc).length)).length ((c14 - (acc).length))) (R_sll (m := (acc).length) rfl rfl Tryz.underlying30 (Tryz.sizeOf29 _) (by first | rfl | (omega)) (by omega)) (by rw [ha270]; exact congrArg (fun q_ => Value.slice _ q_ _) (by (try simp only [List.length_drop, List.length_append, List.length_cons, List.length_nil]); try omega))) ?_
            refine S_append (info := Tryz.t29) (R := RFile) (xs := (acc ++ [f])) (ys := ((dropS l f.name).drop (acc).length)) (a := a265) (c := c266) 0 Tryz.underlying30 (by kernel_rfl) rfl rfl rfl (by decide) 32 rfl hS268 rfl (Hp.le_refl _) hs271 rfl rfl (by (try simp only [List.length_append, List.length_cons, List.length_nil, List.length_drop]); omega) (by (try simp only [List.length_append, List.length_cons, List.length_nil, List.length_drop]); omega) ?_
            intro a272 c273 w274 hS275
            refine WL.val1 (R_assign (v := .slice (a272) (((acc ++ [f]) ++ ((dropS l f.name).drop (acc).length))).length (c273)) rfl) ?_
            refine WL.nil ?_
            refine then_normal ?_
            refine WC.seq ?_
            refine WC.region ?_
            refine WL.val1 (R_move (v := .slice (a272) (((acc ++ [f]) ++ ((dropS l f.name).drop (acc).length))).length (c273)) rfl) ?_
            refine WL.val1 (R_assign (v := .slice (a272) (((acc ++ [f]) ++ ((dropS l f.name).drop (acc).length))).length (c273)) rfl) ?_
            refine WL.val1 (R_assign (v := .int .i64 (0)) rfl) ?_
            refine WL.nil ?_
            refine then_normal ?_
            refine WC.ret ?_
            refine top_ret (.tuple #[.slice (a272) (((acc ++ [f]) ++ ((dropS l f.name).drop (acc).length))).length (c273), .int .i64 (0)]) (gives2 rfl rfl rfl) ?_
            have e1_ : lessW (dropS l f.name) f.name = acc := by rw [← f2, lessW_stop (fun x hx => by have := lt_of_some hx; omega), List.append_nil]
            have e_ : putFS l f = (acc ++ [f] ++ (dropS l f.name).drop acc.length, 0) := by rw [putFS, if_neg (by simpa using c0), if_neg (by omega), e1_]
            have hS276 : St Γ h261 (grow 29 RFile h261 (((acc ++ [f]) ++ ((dropS l f.name).drop (acc).length))) (a272) (c273) :: L) w274 := ((hS275.move (i := 0) rfl).remove 1)
            exact ⟨[grow 29 RFile h (((acc ++ [f]) ++ ((dropS l f.name).drop (acc).length))) (a272) (c273)], ⟨a272, c273, (by first | rfl | (rw [e_]; done) | (rw [e_]; rfl) | (simp; done)), (by first | rfl | (rw [e_]; done) | (rw [e_]; rfl))⟩, ((hS276.growFree (i := 0) h RFile_free rfl).weaken_h (((hl10.trans hl23).trans hl258).trans hl262))⟩
set_option maxHeartbeats 400000 in
theorem ref02_Map (files : List File) (files_a : Option Addr) (files_c : Nat) (most : Int) (long : Int) (hmo : 0 ≤ most ∧ most ≤ 1000) (hlo : 0 ≤ long ∧ long ≤ 1000000) (hbig : ∀ x ∈ files, x.name.length ≤ 9223372036854775807) : MutH GG Tryz.prog 16 (fun h => Sl RFile h files files_a files_c) [.slice (files_a) (files).length (files_c), .int .i64 (most), .int .i64 (long)] (fun h => []) (fun h A v => ∃ (r_a : Option Addr) (r_c : Nat), v = .slice (r_a) ((mapS files most long)).length (r_c) ∧ A = [grow 29 RFile h ((mapS files most long)) (r_a) (r_c)]) := by
  intro Γ h L w hpre hS
  have sl_files := hpre
  refine Ret.body Tryz.func16 rfl Tryz.ntmps16 (Nat.le_of_ble_eq_true rfl) ?_
  have hS : St Γ h (L) w := hS
  refine WC.seq ?_
  refine WC.region ?_
  refine WL.val1 (R_assign (v := .slice none 0 0) rfl) ?_
  refine WL.nil ?_
  refine then_normal ?_
  refine WC.seq ?_
  refine WC.region ?_
  refine S_buildSlice0 (R := RFile) (e := 29) hS Tryz.underlying30 (Tryz.sizeOf29) ?_
  intro w2 hS1
  refine WL.val1 (R_assign (v := .slice (some ⟨w.heap.size, 0, none⟩) 0 (0)) rfl) ?_
  refine WL.nil ?_
  refine then_normal ?_
  refine WC.seq ?_
  refine WC.seq ?_
  refine WC.region ?_
  refine WL.val1 (R_assign (v := .int .i64 (0)) rfl) ?_
  refine WL.nil ?_
  refine then_normal ?_
  refine WC.block ?_
  refine WC.loopL (σ := Nat × (List File) × (Option Addr) × Nat)
    (fun (q_ : Nat × (List File) × (Option Addr) × Nat) => (fun (i : Nat) (m : List File) (m_a : Option Addr) (m_c : Nat) => [(0, .slice (files_a) (files).length (files_c)), (1, .int .i64 (most)), (2, .int .i64 (long)), (7, .slice (m_a) (m).length (m_c)), (8, .int .i64 (((i : Nat) : Int)))]) (q_.1) (q_.2.1) (q_.2.2.1) (q_.2.2.2))
    (fun (q_ : Nat × (List File) × (Option Addr) × Nat) (w_ : World) => (fun (i : Nat) (m : List File) (m_a : Option Addr) (m_c : Nat) => ∃ h5 : Hp, h.le h5 ∧ St Γ h5 (grow 29 RFile h5 (m) (m_a) (m_c) :: L) w_ ∧ (i ≤ files.length ∧ (i : Int) ≤ most) ∧ (mapF long m ((files.take most.toNat).drop i) = mapS files most long) ∧ (rightS m = true)) (q_.1) (q_.2.1) (q_.2.2.1) (q_.2.2.2))
    (fun (q_ : Nat × (List File) × (Option Addr) × Nat) => (fun (i : Nat) (m : List File) (m_a : Option Addr) (m_c : Nat) => files.length - i) (q_.1) (q_.2.1) (q_.2.2.1) (q_.2.2.2)) (0, ([] : List File), some ⟨w.heap.size, 0, none⟩, 0) ?_ ?_ ?_
  · exact ⟨rfl, rfl, rfl, (by first | rfl | (apply congrArg (Value.int .i64); omega) | simp), (by first | rfl | (apply congrArg (Value.int .i64); omega) | simp), trivial⟩
  · exact ⟨h, Hp.le_refl _, hS1, (by first | assumption | omega | simp), (by rfl), (by rfl)⟩
  · rintro ⟨i, m, m_a, m_c⟩ r7 w4 ⟨h5, hl6, hS3, f1, f2, f3⟩
    try dsimp only at f1 f2 f3
    have f5 := rightS_len f3
    refine WC.seq ?_
    refine WC.seq ?_
    refine WC.region ?_
    refine WL.val1 (R_move (v := .int .i64 (((i : Nat) : Int))) rfl) ?_
    refine WL.val1 (R_move (v := .slice (files_a) (files).length (files_c)) rfl) ?_
    refine WL.val1 (R_len_slice (n := (files).length) rfl Tryz.underlying30) ?_
    refine WL.val1 (R_lss (a := ((i : Nat) : Int)) (b := (((files).length : Nat) : Int)) rfl rfl) ?_
    refine WL.val1 (R_move (v := .bool (decide (((i : Nat) : Int) < (((files).length : Nat) : Int)))) rfl) ?_
    refine WL.gpure (gd := decide (((i : Nat) : Int) < (((files).length : Nat) : Int))) (yl_t (d := 17) rfl rfl) (fun hg => R_move (v := .int .i64 (((i : Nat) : Int))) rfl) ?_
    refine WL.gpure (gd := decide (((i : Nat) : Int) < (((files).length : Nat) : Int))) (yl_t (d := 17) rfl rfl) (fun hg => R_move (v := .int .i64 (most)) rfl) ?_
    refine WL.gpure (gd := decide (((i : Nat) : Int) < (((files).length : Nat) : Int))) (yl_t (d := 17) rfl rfl) (fun hg => R_lss (a := ((i : Nat) : Int)) (b := most) (gvT hg rfl) (gvT hg rfl)) ?_
    refine WL.val1 (R_and (cb := decide (((i : Nat) : Int) < (((files).length : Nat) : Int))) (yb := decide (((i : Nat) : Int) < most)) rfl rfl rfl) ?_
    refine WL.nil ?_
    refine then_normal ?_
    refine WC.condI ((((i : Nat) : Int) < (((files).length : Nat) : Int) ∧ ((i : Nat) : Int) < most)) (b := (decide (((i : Nat) : Int) < (((files).length : Nat) : Int)) && decide (((i : Nat) : Int) < most))) rfl (b_and b_dec b_dec) (fun c0 => ?_) (fun c0 => ?_)
    · skip
      refine WC.skip ?_
      refine then_normal ?_
      refine WC.seq ?_
      refine WC.block ?_
      refine WC.seq ?_
      refine WC.region ?_
      refine WL.val1 (R_move (v := .slice (files_a) (files).length (files_c)) rfl) ?_
      refine WL.val1 (R_move (v := .int .i64 (((i : Nat) : Int))) rfl) ?_
      obtain ⟨z_files_i, hz_files_i⟩ : ∃ z, (files)[i]? = some z := ⟨_, List.getElem?_eq_getElem (by omega)⟩
      obtain ⟨b8, o9, cs13, ha10, hr11, hat12⟩ := (sl_files.mono hl6).2 i z_files_i hz_files_i
      subst hr11
      have hb_files_i := hbig z_files_i (List.mem_of_getElem? hz_files_i)
      refine WL.val1 (R_indexAddrE (i := ((i : Nat) : Int)) (m := i) ha10 rfl rfl Tryz.underlying30 (Tryz.sizeOf29 _) (by first | rfl | (omega)) (by omega)) ?_
      refine WL.val1 (R_loadCA (cs := [.string (B (z_files_i.name)), .string (B (z_files_i.text))]) hS3 rfl hat12 Tryz.isAgg29 Tryz.sizeOf29 rfl) ?_
      refine S_alloc hS3 Tryz.zeroValue29 ?_
      intro w15 hS14
      refine S_store (i := 0) (b := w4.heap.size) (l := [.string (B (([] : Str))), .string (B (([] : Str)))]) (l' := [.string (B (z_files_i.name)), .string (B (z_files_i.text))]) (vs := [.string (B (z_files_i.name)), .string (B (z_files_i.text))]) (v := .agg #[.string (B (z_files_i.name)), .string (B (z_files_i.text))]) hS14 rfl rfl rfl Tryz.sizeOf29 rfl rfl rfl (Nat.le_of_ble_eq_true rfl) rfl rfl ?_
      intro w17 hS16
      refine WL.nil ?_
      refine then_normal ?_
      refine WC.seq ?_
      refine WC.region ?_
      refine WL.val1 (R_fieldAddr (b := w4.heap.size) (off := 0) (m := 1) rfl (fun _ => by kernel_rfl)) ?_
      refine WL.val1 (R_load (v := .string (B (z_files_i.text))) rfl (hS16.has (i := 0) rfl) (Tryz.isAgg9 _) rfl) ?_
      refine WL.val1 (R_fieldAddr (b := w4.heap.size) (off := 0) (m := 1) rfl (fun _ => by kernel_rfl)) ?_
      refine WL.val1 (R_load (v := .string (B (z_files_i.text))) rfl (hS16.has (i := 0) rfl) (Tryz.isAgg9 _) rfl) ?_
      refine WL.val1 (R_slen (a := z_files_i.text) rfl Tryz.underlying9) ?_
      refine WL.val1 (R_move (v := .int .i64 (long)) rfl) ?_
      refine WL.val1 (R_min (a := (((z_files_i.text).length : Nat) : Int)) (b := long) rfl rfl) ?_
      refine WL.val1 (R_sslice_h (a := z_files_i.text) (j := (min ((((z_files_i.text).length : Nat) : Int)) (long))) (n := ((min ((((z_files_i.text).length : Nat) : Int)) (long))).toNat) rfl rfl Tryz.underlying9 (by first | rfl | (omega)) (by omega)) ?_
      refine WL.val1 (R_fieldAddr (b := w4.heap.size) (off := 0) (m := 1) rfl (fun _ => by kernel_rfl)) ?_
      refine S_store (i := 0) (b := w4.heap.size) (l := [.string (B (z_files_i.name)), .string (B (z_files_i.text))]) (l' := [.string (B (z_files_i.name)), .string (B ((z_files_i.text.take ((min ((((z_files_i.text).length : Nat) : Int)) (long))).toNat)))]) (vs := [.string (B ((z_files_i.text.take ((min ((((z_files_i.text).length : Nat) : Int)) (long))).toNat)))]) (v := .string (B ((z_files_i.text.take ((min ((((z_files_i.text).length : Nat) : Int)) (long))).toNat)))) hS16 rfl rfl rfl Tryz.sizeOf9 rfl rfl rfl (Nat.le_of_ble_eq_true rfl) rfl rfl ?_
      intro w19 hS18
      refine WL.nil ?_
      refine then_normal ?_
      refine WC.seq ?_
      refine WC.region ?_
      refine WL.val1 (R_move (v := .slice (m_a) (m).length (m_c)) rfl) ?_
      refine WL.val1 (R_loadA (cs := [.string (B (z_files_i.name)), .string (B ((z_files_i.text.take ((min ((((z_files_i.text).length : Nat) : Int)) (long))).toNat)))]) rfl (hS18.has (i := 0) rfl) (Tryz.isAgg29 _) (Tryz.sizeOf29 _) rfl (sub_cells rfl)) ?_
      obtain ⟨h20, hl21, hs22, hS23, back24⟩ := hS18.lendG (i := 1) rfl (Hp.le_refl _)
      refine S_callH (vs := [.slice (m_a) (m).length (m_c), .agg #[.string (B (z_files_i.name)), .string (B ((z_files_i.text.take ((min ((((z_files_i.text).length : Nat) : Int)) (long))).toNat)))]]) (A := fun hh_ => []) (L := row (w4.heap.size) [.string (B (z_files_i.name)), .string (B ((z_files_i.text.take ((min ((((z_files_i.text).length : Nat) : Int)) (long))).toNat)))] 29 :: emp :: L) hS23 Tryz.call36 rfl (ref02_Put (m) (m_a) (m_c) ({ name := z_files_i.name, text := (z_files_i.text.take ((min ((((z_files_i.text).length : Nat) : Int)) (long))).toNat) : File }) (by first | assumption | omega) (by first | assumption | omega)) hs22 ?_
      intro A27 v28 w26 hp29 hS25
      obtain ⟨r_a30, r_c31, rfl, rfl⟩ := hp29
      have hS25 : St Γ h20 (grow 29 RFile h20 ((putFS m ({ name := z_files_i.name, text := (z_files_i.text.take ((min ((((z_files_i.text).length : Nat) : Int)) (long))).toNat) : File })).1) (r_a30) (r_c31) :: row (w4.heap.size) [.string (B (z_files_i.name)), .string (B ((z_files_i.text.take ((min ((((z_files_i.text).length : Nat) : Int)) (long))).toNat)))] 29 :: emp :: L) w26 := hS25
      have hS32 := back24 _ 2 _ rfl hS25
      have hS33 : St Γ h5 (grow 29 RFile h5 ((putFS m ({ name := z_files_i.name, text := (z_files_i.text.take ((min ((((z_files_i.text).length : Nat) : Int)) (long))).toNat) : File })).1) (r_a30) (r_c31) :: row (w4.heap.size) [.string (B (z_files_i.name)), .string (B ((z_files_i.text.take ((min ((((z_files_i.text).length : Nat) : Int)) (long))).toNat)))] 29 :: grow 29 RFile h5 (m) (m_a) (m_c) :: L) w26 := (hS32.growFree (i := 0) h5 RFile_free rfl)
      refine WL.val1 (R_move (v := .tuple #[.slice (r_a30) ((putFS m ({ name := z_files_i.name, text := (z_files_i.text.take ((min ((((z_files_i.text).length : Nat) : Int)) (long))).toNat) : File })).1).length (r_c31), .int .i64 ((putFS m ({ name := z_files_i.name, text := (z_files_i.text.take ((min ((((z_files_i.text).length : Nat) : Int)) (long))).toNat) : File })).2)]) rfl) ?_
      refine WL.val1 (R_extract (vs := ([.slice (r_a30) ((putFS m ({ name := z_files_i.name, text := (z_files_i.text.take ((min ((((z_files_i.text).length : Nat) : Int)) (long))).toNat) : File })).1).length (r_c31), .int .i64 ((putFS m ({ name := z_files_i.name, text := (z_files_i.text.take ((min ((((z_files_i.text).length : Nat) : Int)) (long))).toNat) : File })).2)] : List Value).toArray) (v := .slice (r_a30) ((putFS m ({ name := z_files_i.name, text := (z_files_i.text.take ((min ((((z_files_i.text).length : Nat) : Int)) (long))).toNat) : File })).1).length (r_c31)) rfl rfl) ?_
      refine WL.val1 (R_extract (vs := ([.slice (r_a30) ((putFS m ({ name := z_files_i.name, text := (z_files_i.text.take ((min ((((z_files_i.text).length : Nat) : Int)) (long))).toNat) : File })).1).length (r_c31), .int .i64 ((putFS m ({ name := z_files_i.name, text := (z_files_i.text.take ((min ((((z_files_i.text).length : Nat) : Int)) (long))).toNat) : File })).2)] : List Value).toArray) (v := .int .i64 ((putFS m ({ name := z_files_i.name, text := (z_files_i.text.take ((min ((((z_files_i.text).length : Nat) : Int)) (long))).toNat) : File })).2)) rfl rfl) ?_
      refine WL.val1 (R_assign (v := .slice (r_a30) ((putFS m ({ name := z_files_i.name, text := (z_files_i.text.take ((min ((((z_files_i.text).length : Nat) : Int)) (long))).toNat) : File })).1).length (r_c31)) rfl) ?_
      refine WL.val1 (R_assign (v := .int .i64 ((putFS m ({ name := z_files_i.name, text := (z_files_i.text.take ((min ((((z_files_i.text).length : Nat) : Int)) (long))).toNat) : File })).2)) rfl) ?_
      refine WL.nil ?_
      refine then_normal ?_
      refine WC.seq ?_
      refine WC.region ?_
      refine WL.val1 (R_move (v := .int .i64 ((putFS m ({ name := z_files_i.name, text := (z_files_i.text.take ((min ((((z_files_i.text).length : Nat) : Int)) (long))).toNat) : File })).2)) rfl) ?_
      refine WL.val1 (R_eql (a := (putFS m ({ name := z_files_i.name, text := (z_files_i.text.take ((min ((((z_files_i.text).length : Nat) : Int)) (long))).toNat) : File })).2) (b := 0) rfl rfl) ?_
      refine WL.nil ?_
      refine then_normal ?_
      refine WC.condP ((putFS m ({ name := z_files_i.name, text := (z_files_i.text.take ((min ((((z_files_i.text).length : Nat) : Int)) (long))).toNat) : File })).2 = 0) rfl (fun c1 => ?_) (fun c1 => ?_)
      · skip
        refine WC.region ?_
        refine WL.val1 (R_move (v := .slice (r_a30) ((putFS m ({ name := z_files_i.name, text := (z_files_i.text.take ((min ((((z_files_i.text).length : Nat) : Int)) (long))).toNat) : File })).1).length (r_c31)) rfl) ?_
        refine WL.val1 (R_assign (v := .slice (r_a30) ((putFS m ({ name := z_files_i.name, text := (z_files_i.text.take ((min ((((z_files_i.text).length : Nat) : Int)) (long))).toNat) : File })).1).length (r_c31)) rfl) ?_
        refine WL.nil ?_
        refine block_normal ?_
        refine then_normal ?_
        refine WC.region ?_
        refine WL.val1 (R_move (v := .int .i64 (((i : Nat) : Int))) rfl) ?_
        refine WL.val1 (R_add_i (a := ((i : Nat) : Int)) (b := 1) rfl rfl (by omega)) ?_
        refine WL.val1 (R_assign (v := .int .i64 ((((i : Nat) : Int) + 1))) rfl) ?_
        refine WL.nil ?_
        refine then_normal ?_
        have hS34 : St Γ h5 (grow 29 RFile h5 ((putFS m ({ name := z_files_i.name, text := (z_files_i.text.take ((min ((((z_files_i.text).length : Nat) : Int)) (long))).toNat) : File })).1) (r_a30) (r_c31) :: L) w26 := (((hS33.move (i := 0) rfl).remove 2).remove 1)
        exact ⟨(i + 1, (putFS m ({ name := z_files_i.name, text := (z_files_i.text.take ((min ((((z_files_i.text).length : Nat) : Int)) (long))).toNat) : File })).1, r_a30, r_c31), ⟨rfl, rfl, rfl, (by first | rfl | (apply congrArg (Value.int .i64); omega) | simp), (by first | rfl | (apply congrArg (Value.int .i64); omega) | simp), trivial⟩, ⟨h5, hl6, hS34, (by (try dsimp only); first | assumption | omega | simp), (by (try dsimp only); rw [← f2, mapF_step hz_files_i (by omega) long m]; (first | rw [if_pos c1] | rw [if_neg c1])), (by (try dsimp only); first | exact putFS_right f3 c1 | exact f3)⟩, (by first | (simp only []; omega) | (simp; omega))⟩
      · skip
        refine WC.skip ?_
        refine block_normal ?_
        refine then_normal ?_
        refine WC.region ?_
        refine WL.val1 (R_move (v := .int .i64 (((i : Nat) : Int))) rfl) ?_
        refine WL.val1 (R_add_i (a := ((i : Nat) : Int)) (b := 1) rfl rfl (by omega)) ?_
        refine WL.val1 (R_assign (v := .int .i64 ((((i : Nat) : Int) + 1))) rfl) ?_
        refine WL.nil ?_
        refine then_normal ?_
        exact ⟨(i + 1, m, m_a, m_c), ⟨rfl, rfl, rfl, (by first | rfl | (apply congrArg (Value.int .i64); omega) | simp), (by first | rfl | (apply congrArg (Value.int .i64); omega) | simp), trivial⟩, ⟨h5, hl6, hS33.pop.pop, (by (try dsimp only); first | assumption | omega | simp), (by (try dsimp only); rw [← f2, mapF_step hz_files_i (by omega) long m]; (first | rw [if_pos c1] | rw [if_neg c1])), (by (try dsimp only); first | exact putFS_right f3 c1 | exact f3)⟩, (by first | (simp only []; omega) | (simp; omega))⟩
    · skip
      refine WC.exit ?_
      refine then_exit ?_
      refine then_exit ?_
      refine block_exit ?_
      refine then_normal ?_
      refine WC.seq ?_
      refine WC.region ?_
      refine WL.val1 (R_move (v := .slice (m_a) (m).length (m_c)) rfl) ?_
      refine WL.val1 (R_assign (v := .slice (m_a) (m).length (m_c)) rfl) ?_
      refine WL.nil ?_
      refine then_normal ?_
      refine WC.ret ?_
      refine top_ret (.slice (m_a) (m).length (m_c)) (gives1 rfl rfl) ?_
      have e_ : mapS files most long = m := by rw [← f2, mapF_end (by omega)]
      exact ⟨[grow 29 RFile h (m) (m_a) (m_c)], ⟨m_a, m_c, (by first | rfl | rw [e_]), (by first | rfl | (rw [e_]; done) | (rw [e_]; rfl))⟩, ((hS3.growFree (i := 0) h RFile_free rfl).weaken_h hl6)⟩
set_option maxHeartbeats 400000 in
theorem wire_Parse (s : Str) (hs : s.length ≤ 1000000) : MutH GG Tryz.prog 42 (fun _ => True) [.string (B (s))] (fun h => []) (fun h A v => ∃ (r_a : Option Addr) (r_c : Nat), v = .tuple #[.slice (r_a) ((parseS s).1).length (r_c), .int .i64 ((parseS s).2)] ∧ A = [grow 29 RFile h ((parseS s).1) (r_a) (r_c)]) := by
  intro Γ h L w hpre hS
  have hb := allS_bd s
  have hp := pairs_big s hs
  refine Ret.body Tryz.func42 rfl Tryz.ntmps42 (Nat.le_of_ble_eq_true rfl) ?_
  have hS : St Γ h (L) w := hS
  refine WC.seq ?_
  refine WC.region ?_
  refine WL.val1 (R_assign (v := .slice none 0 0) rfl) ?_
  refine WL.val1 (R_assign (v := .int .i64 (0)) rfl) ?_
  refine WL.nil ?_
  refine then_normal ?_
  refine WC.seq ?_
  refine WC.region ?_
  refine WL.val1 (R_move (v := .string (B (s))) rfl) ?_
  refine S_callF (vs := [.string (B (s))]) hS Tryz.call54 rfl (wire_All (s) (by first | omega | exact fun x hx => hp.2 x (by rw [f4] at hx; exact hx) | (have := hp.1; rw [f4]; omega))) trivial ?_
  intro h3 v5 w2 hl4 hp6 hS1
  obtain ⟨a7, c8, rfl, hf9⟩ := hp6
  refine WL.val1 (R_move (v := .tuple #[.slice (a7) ((allS s).1).length (c8), .int .i64 ((allS s).2)]) rfl) ?_
  refine WL.val1 (R_extract (vs := ([.slice (a7) ((allS s).1).length (c8), .int .i64 ((allS s).2)] : List Value).toArray) (v := .slice (a7) ((allS s).1).length (c8)) rfl rfl) ?_
  refine WL.val1 (R_extract (vs := ([.slice (a7) ((allS s).1).length (c8), .int .i64 ((allS s).2)] : List Value).toArray) (v := .int .i64 ((allS s).2)) rfl rfl) ?_
  refine WL.val1 (R_assign (v := .slice (a7) ((allS s).1).length (c8)) rfl) ?_
  refine WL.val1 (R_assign (v := .int .i64 ((allS s).2)) rfl) ?_
  refine WL.nil ?_
  refine then_normal ?_
  refine WC.seq ?_
  refine WC.seq ?_
  refine WC.region ?_
  refine WL.val1 (R_move (v := .int .i64 ((allS s).2)) rfl) ?_
  refine WL.val1 (R_neq (a := (allS s).2) (b := 0) rfl rfl) ?_
  refine WL.nil ?_
  refine then_normal ?_
  refine WC.condP ((allS s).2 ≠ 0) rfl (fun c0 => ?_) (fun c0 => ?_)
  · skip
    refine WC.seq ?_
    refine WC.region ?_
    refine WL.val1 (R_move (v := .int .i64 ((allS s).2)) rfl) ?_
    refine WL.val1 (R_assign (v := .slice none 0 0) rfl) ?_
    refine WL.val1 (R_assign (v := .int .i64 ((allS s).2)) rfl) ?_
    refine WL.nil ?_
    refine then_normal ?_
    refine WC.ret ?_
    refine then_ret ?_
    refine top_ret (.tuple #[.slice none 0 0, .int .i64 ((allS s).2)]) (gives2 rfl rfl rfl) ?_
    have e_ : parseS s = ([], (allS s).2) := by unfold parseS; rw [if_pos (by omega)]
    have hS10 := hS1.growNil 29 RFile h3
    exact ⟨[grow 29 RFile h (([] : List File)) (none) (0)], ⟨none, 0, (by first | rfl | (rw [e_]; done) | (rw [e_]; rfl) | (simp; done)), (by first | rfl | (rw [e_]; done) | (rw [e_]; rfl))⟩, ((hS10.growFree (i := 0) h RFile_free rfl).weaken_h hl4)⟩
  · skip
    refine WC.skip ?_
    refine then_normal ?_
    refine WC.seq ?_
    refine WC.seq ?_
    refine WC.region ?_
    refine WL.val1 (R_move (v := .slice (a7) ((allS s).1).length (c8)) rfl) ?_
    refine WL.val1 (R_len_slice (n := ((allS s).1).length) rfl Tryz.underlying102) ?_
    refine WL.val1 (R_rem_i (a := ((((allS s).1).length : Nat) : Int)) (b := 2) rfl rfl (by omega) (by omega)) ?_
    refine WL.val1 (R_neq (a := (((((allS s).1).length : Nat) : Int) % 2)) (b := 0) rfl rfl) ?_
    refine WL.nil ?_
    refine then_normal ?_
    refine WC.condP ((((((allS s).1).length : Nat) : Int) % 2) ≠ 0) rfl (fun c1 => ?_) (fun c1 => ?_)
    · skip
      refine WC.seq ?_
      refine WC.region ?_
      refine WL.val1 (R_assign (v := .slice none 0 0) rfl) ?_
      refine WL.val1 (R_assign (v := .int .i64 (5)) rfl) ?_
      refine WL.nil ?_
      refine then_normal ?_
      refine WC.ret ?_
      refine then_ret ?_
      refine top_ret (.tuple #[.slice none 0 0, .int .i64 (5)]) (gives2 rfl rfl rfl) ?_
      have e_ : parseS s = ([], 5) := by unfold parseS; rw [if_neg (by omega), if_pos (.inl (by omega))]
      have hS11 := hS1.growNil 29 RFile h3
      exact ⟨[grow 29 RFile h (([] : List File)) (none) (0)], ⟨none, 0, (by first | rfl | (rw [e_]; done) | (rw [e_]; rfl) | (simp; done)), (by first | rfl | (rw [e_]; done) | (rw [e_]; rfl))⟩, ((hS11.growFree (i := 0) h RFile_free rfl).weaken_h hl4)⟩
    · skip
      refine WC.skip ?_
      refine then_normal ?_
      refine WC.seq ?_
      refine WC.region ?_
      refine WL.val1 (R_assign (v := .slice none 0 0) rfl) ?_
      refine WL.nil ?_
      refine then_normal ?_
      refine WC.seq ?_
      refine WC.seq ?_
      refine WC.region ?_
      refine WL.val1 (R_assign (v := .int .i64 (0)) rfl) ?_
      refine WL.nil ?_
      refine then_normal ?_
      refine WC.block ?_
      have hS12 := hS1.growNil 29 RFile h3
      refine WC.loopL (σ := Nat × (List File) × (Option Addr) × Nat)
        (fun (q_ : Nat × (List File) × (Option Addr) × Nat) => (fun (i : Nat) (acc : List File) (acc_a : Option Addr) (acc_c : Nat) => [(4, .slice (a7) ((allS s).1).length (c8)), (6, .slice (acc_a) (acc).length (acc_c)), (7, .int .i64 (((i : Nat) : Int)))]) (q_.1) (q_.2.1) (q_.2.2.1) (q_.2.2.2))
        (fun (q_ : Nat × (List File) × (Option Addr) × Nat) (w_ : World) => (fun (i : Nat) (acc : List File) (acc_a : Option Addr) (acc_c : Nat) => ∃ h15 : Hp, h3.le h15 ∧ St Γ h15 (grow 29 RFile h15 (acc) (acc_a) (acc_c) :: L) w_ ∧ (i ≤ (allS s).1.length ∧ i % 2 = 0) ∧ (acc.length ≤ i) ∧ (acc ++ pairsS ((allS s).1.drop i) = pairsS (allS s).1)) (q_.1) (q_.2.1) (q_.2.2.1) (q_.2.2.2))
        (fun (q_ : Nat × (List File) × (Option Addr) × Nat) => (fun (i : Nat) (acc : List File) (acc_a : Option Addr) (acc_c : Nat) => (allS s).1.length + 1 - i) (q_.1) (q_.2.1) (q_.2.2.1) (q_.2.2.2)) (0, ([] : List File), none, 0) ?_ ?_ ?_
      · exact ⟨rfl, (by first | rfl | (apply congrArg (Value.int .i64); omega) | simp), (by first | rfl | (apply congrArg (Value.int .i64); omega) | simp), trivial⟩
      · exact ⟨h3, Hp.le_refl _, hS12, (by first | assumption | omega | simp), (by first | assumption | omega | simp), (by rfl)⟩
      · rintro ⟨i, acc, acc_a, acc_c⟩ r17 w14 ⟨h15, hl16, hS13, f1, f2, f3⟩
        try dsimp only at f1 f2 f3
        refine WC.seq ?_
        refine WC.seq ?_
        refine WC.region ?_
        refine WL.val1 (R_move (v := .int .i64 (((i : Nat) : Int))) rfl) ?_
        refine WL.val1 (R_move (v := .slice (a7) ((allS s).1).length (c8)) rfl) ?_
        refine WL.val1 (R_len_slice (n := ((allS s).1).length) rfl Tryz.underlying102) ?_
        refine WL.val1 (R_lss (a := ((i : Nat) : Int)) (b := ((((allS s).1).length : Nat) : Int)) rfl rfl) ?_
        refine WL.nil ?_
        refine then_normal ?_
        refine WC.condP (((i : Nat) : Int) < ((((allS s).1).length : Nat) : Int)) rfl (fun c2 => ?_) (fun c2 => ?_)
        · skip
          refine WC.skip ?_
          refine then_normal ?_
          refine WC.seq ?_
          refine WC.block ?_
          obtain ⟨z_allS_s_1_i, hz_allS_s_1_i⟩ : ∃ z, ((allS s).1)[i]? = some z := ⟨_, List.getElem?_eq_getElem (by omega)⟩
          obtain ⟨b34, o35, cs39, ha36, hr37, hat38⟩ := (hf9.mono hl16).2 i z_allS_s_1_i hz_allS_s_1_i
          subst hr37
          obtain ⟨z_allS_s_1_i_1, hz_allS_s_1_i_1⟩ : ∃ z, ((allS s).1)[(i + 1)]? = some z := ⟨_, List.getElem?_eq_getElem (by omega)⟩
          obtain ⟨b60, o61, cs65, ha62, hr63, hat64⟩ := (hf9.mono hl16).2 (i + 1) z_allS_s_1_i_1 hz_allS_s_1_i_1
          subst hr63
          refine WC.draw 12 [(4, .slice (a7) ((allS s).1).length (c8)), (6, .slice (acc_a) (acc).length (acc_c)), (7, .int .i64 (((i : Nat) : Int)))] [fun _ v => v = .slice (acc_a) (acc).length (acc_c), fun _ v => v = .slice (a7) ((allS s).1).length (c8), fun _ v => v = .int .i64 (((i : Nat) : Int)), fun _ v => v = .pointer (some ⟨b34, (o35 + i * Rstr.n), none⟩), fun _ v => v = .string (B (z_allS_s_1_i)), fun _ v => v = .slice (a7) ((allS s).1).length (c8), fun _ v => v = .int .i64 (((i : Nat) : Int)), fun _ v => v = .int .i64 ((((i : Nat) : Int) + 1)), fun _ v => v = .pointer (some ⟨b60, (o61 + (i + 1) * Rstr.n), none⟩), fun _ v => v = .string (B (z_allS_s_1_i_1)), fun _ v => v = .agg #[.string (B (z_allS_s_1_i)), .string (B (z_allS_s_1_i_1))], fun h v => ∃ (b0_ : Nat), v = .slice (some ⟨b0_, 0, none⟩) 1 (1) ∧ Sl RFile h ([{ name := z_allS_s_1_i, text := z_allS_s_1_i_1 : File }]) (some ⟨b0_, 0, none⟩) (1)] hS13 (by kernel_rfl) (by kernel_rfl) (MonoFs.pure (MonoFs.pure (MonoFs.pure (MonoFs.pure (MonoFs.pure (MonoFs.pure (MonoFs.pure (MonoFs.pure (MonoFs.pure (MonoFs.pure (MonoFs.pure (MonoFs.cons (fun _ _ _ hl ⟨x0, e, y0⟩ => ⟨x0, e, y0.mono hl⟩) MonoFs.nil)))))))))))) ⟨rfl, rfl, rfl, trivial⟩ ⟨?_, ?_, ?_, ?_, ?_, ?_, ?_, ?_, ?_, ?_, ?_, ?_, trivial⟩ ?_
          · intro r_ w88 h89 hl90 hS87 hb_ hp_
            obtain ⟨b0_, b1_, b2_, _⟩ := hb_
            refine WL.val1 (R_move (v := .slice (acc_a) (acc).length (acc_c)) b1_) ?_
            refine WL.nil ?_
            exact ⟨rfl, _, _, rfl, (Hp.le_refl _), rfl, hS87⟩
          · intro r_ w92 h93 hl94 hS91 hb_ hp_
            obtain ⟨b0_, b1_, b2_, _⟩ := hb_
            refine WL.val1 (R_move (v := .slice (a7) ((allS s).1).length (c8)) b0_) ?_
            refine WL.nil ?_
            exact ⟨rfl, _, _, rfl, (Hp.le_refl _), rfl, hS91⟩
          · intro r_ w96 h97 hl98 hS95 hb_ hp_
            obtain ⟨b0_, b1_, b2_, _⟩ := hb_
            refine WL.val1 (R_move (v := .int .i64 (((i : Nat) : Int))) b2_) ?_
            refine WL.nil ?_
            exact ⟨rfl, _, _, rfl, (Hp.le_refl _), rfl, hS95⟩
          · intro r_ w100 h101 hl102 hS99 hb_ hp_
            obtain ⟨b0_, b1_, b2_, _⟩ := hb_
            obtain ⟨p0_, p1_, _⟩ := hp_
            have p0_ : r_ 27 = .slice (a7) ((allS s).1).length (c8) := p0_
            have p1_ : r_ 28 = .int .i64 (((i : Nat) : Int)) := p1_
            refine WL.val1 (R_indexAddrE (i := ((i : Nat) : Int)) (m := i) ha36 p0_ p1_ Tryz.underlying102 (Tryz.sizeOf9 _) (by first | rfl | (omega)) (by omega)) ?_
            refine WL.nil ?_
            exact ⟨rfl, _, _, rfl, (Hp.le_refl _), rfl, hS99⟩
          · intro r_ w104 h105 hl106 hS103 hb_ hp_
            obtain ⟨b0_, b1_, b2_, _⟩ := hb_
            obtain ⟨p0_, _⟩ := hp_
            have p0_ : r_ 29 = .pointer (some ⟨b34, (o35 + i * Rstr.n), none⟩) := p0_
            refine WL.val1 (R_loadC (v := .string (B (z_allS_s_1_i))) hS103 p0_ (hat38.mono hl106) Tryz.isAgg9 rfl) ?_
            refine WL.nil ?_
            exact ⟨rfl, _, _, rfl, (Hp.le_refl _), rfl, hS103⟩
          · intro r_ w108 h109 hl110 hS107 hb_ hp_
            obtain ⟨b0_, b1_, b2_, _⟩ := hb_
            refine WL.val1 (R_move (v := .slice (a7) ((allS s).1).length (c8)) b0_) ?_
            refine WL.nil ?_
            exact ⟨rfl, _, _, rfl, (Hp.le_refl _), rfl, hS107⟩
          · intro r_ w112 h113 hl114 hS111 hb_ hp_
            obtain ⟨b0_, b1_, b2_, _⟩ := hb_
            refine WL.val1 (R_move (v := .int .i64 (((i : Nat) : Int))) b2_) ?_
            refine WL.nil ?_
            exact ⟨rfl, _, _, rfl, (Hp.le_refl _), rfl, hS111⟩
          · intro r_ w116 h117 hl118 hS115 hb_ hp_
            obtain ⟨b0_, b1_, b2_, _⟩ := hb_
            obtain ⟨p0_, _⟩ := hp_
            have p0_ : r_ 32 = .int .i64 (((i : Nat) : Int)) := p0_
            refine WL.val1 (R_add_i (a := ((i : Nat) : Int)) (b := 1) p0_ rfl (by omega)) ?_
            refine WL.nil ?_
            exact ⟨rfl, _, _, rfl, (Hp.le_refl _), rfl, hS115⟩
          · intro r_ w120 h121 hl122 hS119 hb_ hp_
            obtain ⟨b0_, b1_, b2_, _⟩ := hb_
            obtain ⟨p0_, p1_, _⟩ := hp_
            have p0_ : r_ 31 = .slice (a7) ((allS s).1).length (c8) := p0_
            have p1_ : r_ 33 = .int .i64 ((((i : Nat) : Int) + 1)) := p1_
            refine WL.val1 (R_indexAddrE (i := (((i : Nat) : Int) + 1)) (m := (i + 1)) ha62 p0_ p1_ Tryz.underlying102 (Tryz.sizeOf9 _) (by first | rfl | (omega)) (by omega)) ?_
            refine WL.nil ?_
            exact ⟨rfl, _, _, rfl, (Hp.le_refl _), rfl, hS119⟩
          · intro r_ w124 h125 hl126 hS123 hb_ hp_
            obtain ⟨b0_, b1_, b2_, _⟩ := hb_
            obtain ⟨p0_, _⟩ := hp_
            have p0_ : r_ 34 = .pointer (some ⟨b60, (o61 + (i + 1) * Rstr.n), none⟩) := p0_
            refine WL.val1 (R_loadC (v := .string (B (z_allS_s_1_i_1))) hS123 p0_ (hat64.mono hl126) Tryz.isAgg9 rfl) ?_
            refine WL.nil ?_
            exact ⟨rfl, _, _, rfl, (Hp.le_refl _), rfl, hS123⟩
          · intro r_ w128 h129 hl130 hS127 hb_ hp_
            obtain ⟨b0_, b1_, b2_, _⟩ := hb_
            obtain ⟨p0_, p1_, _⟩ := hp_
            have p0_ : r_ 30 = .string (B (z_allS_s_1_i)) := p0_
            have p1_ : r_ 35 = .string (B (z_allS_s_1_i_1)) := p1_
            refine WL.val1 (R_build (vs := [(0, .string (B (z_allS_s_1_i))), (1, .string (B (z_allS_s_1_i_1)))]) (v := .agg #[.string (B (z_allS_s_1_i)), .string (B (z_allS_s_1_i_1))]) (pmap2 p0_ p1_) (fun _ => by kernel_rfl)) ?_
            refine WL.nil ?_
            exact ⟨rfl, _, _, rfl, (Hp.le_refl _), rfl, hS127⟩
          · intro r_ w132 h133 hl134 hS131 hb_ hp_
            obtain ⟨b0_, b1_, b2_, _⟩ := hb_
            obtain ⟨p0_, _⟩ := hp_
            have p0_ : r_ 36 = .agg #[.string (B (z_allS_s_1_i)), .string (B (z_allS_s_1_i_1))] := p0_
            refine S_buildSliceC (R := RFile) (m := 1) (vs := [(0, .agg #[.string (B (z_allS_s_1_i)), .string (B (z_allS_s_1_i_1))])]) (cells := [.string (B (z_allS_s_1_i)), .string (B (z_allS_s_1_i_1))]) (xs := [{ name := z_allS_s_1_i, text := z_allS_s_1_i_1 : File }]) hS131 Tryz.underlying30 Tryz.sizeOf29 Tryz.zeroValue29 (by decide) (by decide) (pmap1 (v := .agg #[.string (B (z_allS_s_1_i)), .string (B (z_allS_s_1_i_1))]) p0_) (by kernel_rfl) (by exact (⟨[.string (B (z_allS_s_1_i)), .string (B (z_allS_s_1_i_1))], _, rfl, rfl, rfl⟩ : Flat RFile _ [{ name := z_allS_s_1_i, text := z_allS_s_1_i_1 : File }] _)) rfl ?_
            intro h137 b139 w136 hl138 hs140 hS135
            refine WL.nil ?_
            exact ⟨rfl, _, _, rfl, hl138, ⟨b139, rfl, hs140⟩, hS135⟩
          · intro r_ w144 h145 hl146 hS143 hb_ hf_
            obtain ⟨b0_, b1_, b2_, _⟩ := hb_
            have q0_ := AF.get hf_ 0 (d := 26) rfl rfl
            have q11_ := AF.get hf_ 11 (d := 37) rfl rfl
            obtain ⟨b147, q11_, hs148⟩ := q11_
            refine WL.frame [(4, .slice (a7) ((allS s).1).length (c8)), (6, .slice (acc_a) (acc).length (acc_c)), (7, .int .i64 (((i : Nat) : Int))), (26, .slice (acc_a) (acc).length (acc_c)), (37, .slice (some ⟨b147, 0, none⟩) 1 (1))] ⟨b0_, b1_, b2_, q0_, q11_, trivial⟩ (fun r_ => ?_)
            refine S_append (info := Tryz.t29) (R := RFile) (xs := acc) (ys := [{ name := z_allS_s_1_i, text := z_allS_s_1_i_1 : File }]) (a := acc_a) (c := acc_c) 0 Tryz.underlying30 (by kernel_rfl) rfl rfl rfl (by decide) 32 rfl hS143 rfl hl146 hs148 rfl rfl (by (try simp only [List.length_append, List.length_cons, List.length_nil]); omega) (by (try simp only [List.length_append, List.length_cons, List.length_nil]); omega) ?_
            intro a149 c150 w151 hS152
            refine WL.val1 (R_assign (v := .slice (a149) ((acc ++ [{ name := z_allS_s_1_i, text := z_allS_s_1_i_1 : File }])).length (c150)) rfl) ?_
            refine WL.nil ?_
            refine block_normal ?_
            refine then_normal ?_
            refine WC.region ?_
            refine WL.val1 (R_move (v := .int .i64 (((i : Nat) : Int))) rfl) ?_
            refine WL.val1 (R_add_i (a := ((i : Nat) : Int)) (b := 2) rfl rfl (by omega)) ?_
            refine WL.val1 (R_assign (v := .int .i64 ((((i : Nat) : Int) + 2))) rfl) ?_
            refine WL.nil ?_
            refine then_normal ?_
            exact ⟨(i + 2, (acc ++ [{ name := z_allS_s_1_i, text := z_allS_s_1_i_1 : File }]), a149, c150), ⟨rfl, (by first | rfl | (apply congrArg (Value.int .i64); omega) | simp), (by first | rfl | (apply congrArg (Value.int .i64); omega) | simp), trivial⟩, ⟨h145, (hl16.trans hl146), hS152, (by (try dsimp only); first | assumption | omega | simp), (by (try dsimp only); simp; omega), (by (try dsimp only); rw [← f3, pairsS_step hz_allS_s_1_i hz_allS_s_1_i_1]; simp only [List.append_assoc, List.cons_append, List.nil_append])⟩, (by first | (simp only []; omega) | (simp; omega))⟩
        · skip
          refine WC.exit ?_
          refine then_exit ?_
          refine then_exit ?_
          refine block_exit ?_
          refine then_normal ?_
          refine WC.seq ?_
          refine WC.seq ?_
          have f4 : acc = pairsS (allS s).1 := by rw [← f3, pairsS_end (by omega), List.append_nil]
          refine WC.region ?_
          refine WL.val1 (R_move (v := .slice (acc_a) (acc).length (acc_c)) rfl) ?_
          obtain ⟨h153, hl154, hs155, hS156, back157⟩ := hS13.lendG (i := 0) rfl (Hp.le_refl _)
          refine S_callP (vs := [.slice (acc_a) (acc).length (acc_c)]) hS156 Tryz.call23 rfl (files_Right (acc) (acc_a) (acc_c) (by first | omega | exact fun x hx => hp.2 x (by rw [f4] at hx; exact hx) | (have := hp.1; rw [f4]; omega)) (by first | omega | exact fun x hx => hp.2 x (by rw [f4] at hx; exact hx) | (have := hp.1; rw [f4]; omega))) hs155 ?_
          intro w159 hS158
          have hS160 := back157 _ 0 _ rfl hS158
          have hS161 : St Γ h15 (grow 29 RFile h15 (acc) (acc_a) (acc_c) :: L) w159 := hS160
          refine WL.val1 (R_not (b := rightS acc) rfl) ?_
          refine WL.nil ?_
          refine then_normal ?_
          refine WC.condI (¬ ((rightS acc) = true)) (b := (!(rightS acc))) rfl (b_not Iff.rfl) (fun c3 => ?_) (fun c3 => ?_)
          · skip
            refine WC.seq ?_
            refine WC.region ?_
            refine WL.val1 (R_assign (v := .slice none 0 0) rfl) ?_
            refine WL.val1 (R_assign (v := .int .i64 (5)) rfl) ?_
            refine WL.nil ?_
            refine then_normal ?_
            refine WC.ret ?_
            refine then_ret ?_
            refine top_ret (.tuple #[.slice none 0 0, .int .i64 (5)]) (gives2 rfl rfl rfl) ?_
            have e_ : parseS s = ([], 5) := by unfold parseS; rw [← f4, if_neg (by omega), if_pos (.inr (by simpa using c3))]
            have hS162 := hS161.growNil 29 RFile h15
            have hS163 : St Γ h15 (grow 29 RFile h15 (([] : List File)) (none) (0) :: L) w159 := ((hS162.move (i := 0) rfl).remove 1)
            exact ⟨[grow 29 RFile h (([] : List File)) (none) (0)], ⟨none, 0, (by first | rfl | (rw [e_]; done) | (rw [e_]; rfl) | (simp; done)), (by first | rfl | (rw [e_]; done) | (rw [e_]; rfl))⟩, ((hS163.growFree (i := 0) h RFile_free rfl).weaken_h (hl4.trans hl16))⟩
          · skip
            refine WC.skip ?_
            refine then_normal ?_
            refine WC.seq ?_
            refine WC.region ?_
            refine WL.val1 (R_move (v := .slice (acc_a) (acc).length (acc_c)) rfl) ?_
            refine WL.val1 (R_assign (v := .slice (acc_a) (acc).length (acc_c)) rfl) ?_
            refine WL.val1 (R_assign (v := .int .i64 (0)) rfl) ?_
            refine WL.nil ?_
            refine then_normal ?_
            refine WC.ret ?_
            refine top_ret (.tuple #[.slice (acc_a) (acc).length (acc_c), .int .i64 (0)]) (gives2 rfl rfl rfl) ?_
            have e_ : parseS s = (acc, 0) := by unfold parseS; rw [← f4, if_neg (by omega), if_neg (fun hh => c3 (hh.elim (by omega) (by simp)))]
            exact ⟨[grow 29 RFile h (acc) (acc_a) (acc_c)], ⟨acc_a, acc_c, (by first | rfl | (rw [e_]; done) | (rw [e_]; rfl) | (simp; done)), (by first | rfl | (rw [e_]; done) | (rw [e_]; rfl))⟩, ((hS161.growFree (i := 0) h RFile_free rfl).weaken_h (hl4.trans hl16))⟩
end Go.Stet
