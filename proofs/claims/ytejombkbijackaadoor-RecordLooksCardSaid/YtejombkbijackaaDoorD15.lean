/- A part of the proof engine: rules for steps of the machine over frames and memory. Each under the conditions that its own statement names. -/
import Derived.Test.YtejombkbijackaaDoorSeatD2
import Derived.Test.YtejombkbijackaaDoorBldD
import Derived.Test.YtejombkbijackaaDoorEng15
import Derived.Test.YtejombkbijackaaDoorSpec12
import Derived.Test.YtejombkbijackaaDoorD14
set_option linter.all false
set_option linter.unusedSimpArgs false
set_option linter.unusedVariables false
namespace Go.Stet
open Go Go.Eng Go.Proofs
set_option maxHeartbeats 400000 in
theorem ref02_Get (l : List File) (l_a : Option Addr) (l_c : Nat) (n : Str) (hl : l.length ≤ 1000000) : PureC GG Tryd.prog 22 (fun h => Sl RFile h l l_a l_c) [.slice (l_a) (l).length (l_c), .string (B (n))] (.tuple #[.string (B ((getFS l n).1)), .bool ((getFS l n).2)]) := by
  intro Γ h L w hpre hS
  have sl_l := hpre
  refine Ret.body Tryd.func22 rfl Tryd.ntmps22 (Nat.le_of_ble_eq_true rfl) ?_
  refine WC.seq ?_
  refine WC.region ?_
  refine WL.val1 (R_assign (v := .string (B (([] : Str)))) rfl) ?_
  refine WL.val1 (R_assign (v := .bool (false)) rfl) ?_
  refine WL.nil ?_
  refine then_normal ?_
  refine WC.seq ?_
  refine WC.seq ?_
  refine WC.region ?_
  refine WL.val1 (R_assign (v := .int .i64 (0)) rfl) ?_
  refine WL.nil ?_
  refine then_normal ?_
  refine WC.block ?_
  refine WC.loopL (σ := Nat)
    (fun (q_ : Nat) => (fun (i : Nat) => [(0, .slice (l_a) (l).length (l_c)), (1, .string (B (n))), (6, .int .i64 (((i : Nat) : Int)))]) (q_))
    (fun (q_ : Nat) (w_ : World) => (fun (i : Nat) => ∃ h3 : Hp, h.le h3 ∧ St Γ h3 (L) w_ ∧ (i ≤ l.length) ∧ (getF (l.drop i) n = getF l n)) (q_))
    (fun (q_ : Nat) => (fun (i : Nat) => l.length - i) (q_)) (0) ?_ ?_ ?_
  · exact ⟨rfl, rfl, (by first | rfl | (apply congrArg (Value.int .i64); omega) | simp), trivial⟩
  · exact ⟨h, Hp.le_refl _, hS, (by first | assumption | omega | simp), (by rfl)⟩
  · rintro i r5 w2 ⟨h3, hl4, hS1, f1, f2⟩
    try dsimp only at f1 f2
    refine WC.seq ?_
    refine WC.seq ?_
    refine WC.region ?_
    refine WL.val1 (R_move (v := .int .i64 (((i : Nat) : Int))) rfl) ?_
    refine WL.val1 (R_move (v := .slice (l_a) (l).length (l_c)) rfl) ?_
    refine WL.val1 (R_len_slice (n := (l).length) rfl Tryd.underlying23) ?_
    refine WL.val1 (R_lss (a := ((i : Nat) : Int)) (b := (((l).length : Nat) : Int)) rfl rfl) ?_
    refine WL.nil ?_
    refine then_normal ?_
    refine WC.condP (((i : Nat) : Int) < (((l).length : Nat) : Int)) rfl (fun c0 => ?_) (fun c0 => ?_)
    · skip
      refine WC.skip ?_
      refine then_normal ?_
      refine WC.seq ?_
      refine WC.block ?_
      refine WC.seq ?_
      refine WC.region ?_
      refine WL.val1 (R_move (v := .slice (l_a) (l).length (l_c)) rfl) ?_
      refine WL.val1 (R_move (v := .int .i64 (((i : Nat) : Int))) rfl) ?_
      obtain ⟨z_l_i, hz_l_i⟩ : ∃ z, (l)[i]? = some z := ⟨_, List.getElem?_eq_getElem (by omega)⟩
      obtain ⟨b6, o7, cs11, ha8, hr9, hat10⟩ := (sl_l.mono hl4).2 i z_l_i hz_l_i
      subst hr9
      refine WL.val1 (R_indexAddrE (i := ((i : Nat) : Int)) (m := i) ha8 rfl rfl Tryd.underlying23 (Tryd.sizeOf53 _) (by first | rfl | (omega)) (by omega)) ?_
      refine WL.val1 (R_fieldAddr (b := b6) (off := (o7 + i * RFile.n)) (m := 0) rfl (fun _ => by kernel_rfl)) ?_
      refine WL.val1 (R_loadC (v := .string (B (z_l_i.name))) hS1 rfl (hat10.sub 0 1 (cs' := [.string (B (z_l_i.name))]) rfl) Tryd.isAgg9 rfl) ?_
      refine WL.val1 (R_move (v := .string (B (n))) rfl) ?_
      refine WL.val1 (R_seql (a := z_l_i.name) (b := n) rfl rfl) ?_
      refine WL.nil ?_
      refine then_normal ?_
      refine WC.condP (z_l_i.name = n) rfl (fun c1 => ?_) (fun c1 => ?_)
      · skip
        refine WC.seq ?_
        refine WC.region ?_
        refine WL.val1 (R_move (v := .slice (l_a) (l).length (l_c)) rfl) ?_
        refine WL.val1 (R_move (v := .int .i64 (((i : Nat) : Int))) rfl) ?_
        refine WL.val1 (R_indexAddrE (i := ((i : Nat) : Int)) (m := i) ha8 rfl rfl Tryd.underlying23 (Tryd.sizeOf53 _) (by first | rfl | (omega)) (by omega)) ?_
        refine WL.val1 (R_fieldAddr (b := b6) (off := (o7 + i * RFile.n)) (m := 1) rfl (fun _ => by kernel_rfl)) ?_
        refine WL.val1 (R_loadC (v := .string (B (z_l_i.text))) hS1 rfl (hat10.sub 1 1 (cs' := [.string (B (z_l_i.text))]) rfl) Tryd.isAgg9 rfl) ?_
        refine WL.val1 (R_assign (v := .string (B (z_l_i.text))) rfl) ?_
        refine WL.val1 (R_assign (v := .bool (true)) rfl) ?_
        refine WL.nil ?_
        refine then_normal ?_
        refine WC.ret ?_
        refine block_ret ?_
        refine then_ret ?_
        refine then_ret ?_
        refine block_ret ?_
        refine then_ret ?_
        refine top_ret (.tuple #[.string (B (z_l_i.text)), .bool (true)]) (gives2 rfl rfl rfl) ?_
        exact ⟨(by rw [getFS, ← f2, getF_yes hz_l_i c1]; rfl), (hS1.weaken_h hl4)⟩
      · skip
        refine WC.skip ?_
        refine block_normal ?_
        refine then_normal ?_
        refine WC.region ?_
        refine WL.val1 (R_move (v := .int .i64 (((i : Nat) : Int))) rfl) ?_
        refine WL.val1 (R_add_i (a := ((i : Nat) : Int)) (b := 1) rfl rfl (by omega)) ?_
        refine WL.val1 (R_assign (v := .int .i64 ((((i : Nat) : Int) + 1))) rfl) ?_
        refine WL.nil ?_
        refine then_normal ?_
        exact ⟨(i + 1), ⟨rfl, rfl, (by first | rfl | (apply congrArg (Value.int .i64); omega) | simp), trivial⟩, ⟨h3, hl4, hS1, (by (try dsimp only); first | assumption | omega | simp), (by (try dsimp only); rw [← f2, getF_no hz_l_i c1])⟩, (by first | (simp only []; omega) | (simp; omega))⟩
    · skip
      refine WC.exit ?_
      refine then_exit ?_
      refine then_exit ?_
      refine block_exit ?_
      refine then_normal ?_
      refine WC.seq ?_
      refine WC.region ?_
      refine WL.val1 (R_assign (v := .string (B (([] : Str)))) rfl) ?_
      refine WL.val1 (R_assign (v := .bool (false)) rfl) ?_
      refine WL.nil ?_
      refine then_normal ?_
      refine WC.ret ?_
      refine top_ret (.tuple #[.string (B (([] : Str))), .bool (false)]) (gives2 rfl rfl rfl) ?_
      exact ⟨(by rw [getFS, ← f2, getF_end (by omega)]; rfl), (hS1.weaken_h hl4)⟩
set_option maxHeartbeats 400000 in
theorem ref02_Drop (l : List File) (l_a : Option Addr) (l_c : Nat) (n : Str) (hl : l.length ≤ 1000000) : FnC GG Tryd.prog 28 (fun h => Sl RFile h l l_a l_c) [.slice (l_a) (l).length (l_c), .string (B (n))] (fun h v => ∃ (a : Option Addr) (c : Nat), v = .tuple #[.slice (a) ((dropS l n)).length (c), .bool (decide ((((dropS l n).length : Nat) : Int) < (((l).length : Nat) : Int)))] ∧ (Sl RFile h (dropS l n) a c)) := by
  intro Γ h L w hpre hS
  have sl_l := hpre
  refine Ret.body Tryd.func28 rfl Tryd.ntmps28 (Nat.le_of_ble_eq_true rfl) ?_
  refine WC.seq ?_
  refine WC.region ?_
  refine WL.val1 (R_assign (v := .slice none 0 0) rfl) ?_
  refine WL.val1 (R_assign (v := .bool (false)) rfl) ?_
  refine WL.nil ?_
  refine then_normal ?_
  refine WC.seq ?_
  refine WC.region ?_
  refine S_buildSlice0 (R := RFile) (e := 53) hS Tryd.underlying23 (Tryd.sizeOf53) ?_
  intro w2 hS1
  refine WL.val1 (R_assign (v := .slice (some ⟨w.heap.size, 0, none⟩) 0 (0)) rfl) ?_
  refine WL.nil ?_
  refine then_normal ?_
  refine WC.seq ?_
  refine WC.seq ?_
  refine WC.region ?_
  refine WL.val1 (R_assign (v := .int .i64 (0)) rfl) ?_
  refine WL.nil ?_
  refine then_normal ?_
  refine WC.block ?_
  refine WC.loopL (σ := Nat × (List File) × (Option Addr) × Nat)
    (fun (q_ : Nat × (List File) × (Option Addr) × Nat) => (fun (i : Nat) (acc : List File) (acc_a : Option Addr) (acc_c : Nat) => [(0, .slice (l_a) (l).length (l_c)), (1, .string (B (n))), (6, .slice (acc_a) (acc).length (acc_c)), (7, .int .i64 (((i : Nat) : Int)))]) (q_.1) (q_.2.1) (q_.2.2.1) (q_.2.2.2))
    (fun (q_ : Nat × (List File) × (Option Addr) × Nat) (w_ : World) => (fun (i : Nat) (acc : List File) (acc_a : Option Addr) (acc_c : Nat) => ∃ h5 : Hp, h.le h5 ∧ St Γ h5 (grow 53 RFile h5 (acc) (acc_a) (acc_c) :: L) w_ ∧ (i ≤ l.length) ∧ (acc = dropS (l.take i) n) ∧ (acc.length ≤ i)) (q_.1) (q_.2.1) (q_.2.2.1) (q_.2.2.2))
    (fun (q_ : Nat × (List File) × (Option Addr) × Nat) => (fun (i : Nat) (acc : List File) (acc_a : Option Addr) (acc_c : Nat) => l.length - i) (q_.1) (q_.2.1) (q_.2.2.1) (q_.2.2.2)) (0, ([] : List File), some ⟨w.heap.size, 0, none⟩, 0) ?_ ?_ ?_
  · exact ⟨rfl, rfl, (by first | rfl | (apply congrArg (Value.int .i64); omega) | simp), (by first | rfl | (apply congrArg (Value.int .i64); omega) | simp), trivial⟩
  · exact ⟨h, Hp.le_refl _, hS1, (by first | assumption | omega | simp), (by rfl), (by first | assumption | omega | simp)⟩
  · rintro ⟨i, acc, acc_a, acc_c⟩ r7 w4 ⟨h5, hl6, hS3, f1, f2, f3⟩
    try dsimp only at f1 f2 f3
    refine WC.seq ?_
    refine WC.seq ?_
    refine WC.region ?_
    refine WL.val1 (R_move (v := .int .i64 (((i : Nat) : Int))) rfl) ?_
    refine WL.val1 (R_move (v := .slice (l_a) (l).length (l_c)) rfl) ?_
    refine WL.val1 (R_len_slice (n := (l).length) rfl Tryd.underlying23) ?_
    refine WL.val1 (R_lss (a := ((i : Nat) : Int)) (b := (((l).length : Nat) : Int)) rfl rfl) ?_
    refine WL.nil ?_
    refine then_normal ?_
    refine WC.condP (((i : Nat) : Int) < (((l).length : Nat) : Int)) rfl (fun c0 => ?_) (fun c0 => ?_)
    · skip
      refine WC.skip ?_
      refine then_normal ?_
      refine WC.seq ?_
      refine WC.block ?_
      refine WC.seq ?_
      refine WC.region ?_
      refine WL.val1 (R_move (v := .slice (l_a) (l).length (l_c)) rfl) ?_
      refine WL.val1 (R_move (v := .int .i64 (((i : Nat) : Int))) rfl) ?_
      obtain ⟨z_l_i, hz_l_i⟩ : ∃ z, (l)[i]? = some z := ⟨_, List.getElem?_eq_getElem (by omega)⟩
      obtain ⟨b8, o9, cs13, ha10, hr11, hat12⟩ := (sl_l.mono hl6).2 i z_l_i hz_l_i
      subst hr11
      refine WL.val1 (R_indexAddrE (i := ((i : Nat) : Int)) (m := i) ha10 rfl rfl Tryd.underlying23 (Tryd.sizeOf53 _) (by first | rfl | (omega)) (by omega)) ?_
      refine WL.val1 (R_fieldAddr (b := b8) (off := (o9 + i * RFile.n)) (m := 0) rfl (fun _ => by kernel_rfl)) ?_
      refine WL.val1 (R_loadC (v := .string (B (z_l_i.name))) hS3 rfl (hat12.sub 0 1 (cs' := [.string (B (z_l_i.name))]) rfl) Tryd.isAgg9 rfl) ?_
      refine WL.val1 (R_move (v := .string (B (n))) rfl) ?_
      refine WL.val1 (R_sneq (a := z_l_i.name) (b := n) rfl rfl) ?_
      refine WL.nil ?_
      refine then_normal ?_
      refine WC.condP (z_l_i.name ≠ n) rfl (fun c1 => ?_) (fun c1 => ?_)
      · skip
        refine WC.region ?_
        refine WL.val1 (R_move (v := .slice (acc_a) (acc).length (acc_c)) rfl) ?_
        refine WL.val1 (R_move (v := .slice (l_a) (l).length (l_c)) rfl) ?_
        refine WL.val1 (R_move (v := .int .i64 (((i : Nat) : Int))) rfl) ?_
        refine WL.val1 (R_indexAddrE (i := ((i : Nat) : Int)) (m := i) ha10 rfl rfl Tryd.underlying23 (Tryd.sizeOf53 _) (by first | rfl | (omega)) (by omega)) ?_
        refine WL.val1 (R_loadCA (cs := [.string (B (z_l_i.name)), .string (B (z_l_i.text))]) hS3 rfl hat12 Tryd.isAgg53 Tryd.sizeOf53 rfl) ?_
        refine S_buildSliceC (R := RFile) (m := 1) (vs := [(0, .agg #[.string (B (z_l_i.name)), .string (B (z_l_i.text))])]) (cells := [.string (B (z_l_i.name)), .string (B (z_l_i.text))]) (xs := [z_l_i]) hS3 Tryd.underlying23 Tryd.sizeOf53 Tryd.zeroValue53 (by decide) (by decide) rfl (by kernel_rfl) (by exact (⟨[.string (B (z_l_i.name)), .string (B (z_l_i.text))], _, rfl, rfl, rfl⟩ : Flat RFile _ [z_l_i] _)) rfl ?_
        intro h16 b18 w15 hl17 hs19 hS14
        refine S_append (info := Tryd.t53) (R := RFile) (xs := acc) (ys := [z_l_i]) (a := acc_a) (c := acc_c) 0 Tryd.underlying23 (by kernel_rfl) rfl rfl rfl (by decide) 32 rfl hS14 rfl hl17 hs19 rfl rfl (by (try simp only [List.length_append, List.length_cons, List.length_nil]); omega) (by (try simp only [List.length_append, List.length_cons, List.length_nil]); omega) ?_
        intro a20 c21 w22 hS23
        refine WL.val1 (R_assign (v := .slice (a20) ((acc ++ [z_l_i])).length (c21)) rfl) ?_
        refine WL.nil ?_
        refine block_normal ?_
        refine then_normal ?_
        refine WC.region ?_
        refine WL.val1 (R_move (v := .int .i64 (((i : Nat) : Int))) rfl) ?_
        refine WL.val1 (R_add_i (a := ((i : Nat) : Int)) (b := 1) rfl rfl (by omega)) ?_
        refine WL.val1 (R_assign (v := .int .i64 ((((i : Nat) : Int) + 1))) rfl) ?_
        refine WL.nil ?_
        refine then_normal ?_
        exact ⟨(i + 1, (acc ++ [z_l_i]), a20, c21), ⟨rfl, rfl, (by first | rfl | (apply congrArg (Value.int .i64); omega) | simp), (by first | rfl | (apply congrArg (Value.int .i64); omega) | simp), trivial⟩, ⟨h16, (hl6.trans hl17), hS23, (by (try dsimp only); first | assumption | omega | simp), (by (try dsimp only); first | (rw [dropS_step_in hz_l_i c1, ← f2]; done) | (rw [dropS_step_out hz_l_i c1, ← f2]; done)), (by (try dsimp only); first | omega | (simp; omega))⟩, (by first | (simp only []; omega) | (simp; omega))⟩
      · skip
        refine WC.skip ?_
        refine block_normal ?_
        refine then_normal ?_
        refine WC.region ?_
        refine WL.val1 (R_move (v := .int .i64 (((i : Nat) : Int))) rfl) ?_
        refine WL.val1 (R_add_i (a := ((i : Nat) : Int)) (b := 1) rfl rfl (by omega)) ?_
        refine WL.val1 (R_assign (v := .int .i64 ((((i : Nat) : Int) + 1))) rfl) ?_
        refine WL.nil ?_
        refine then_normal ?_
        exact ⟨(i + 1, acc, acc_a, acc_c), ⟨rfl, rfl, (by first | rfl | (apply congrArg (Value.int .i64); omega) | simp), (by first | rfl | (apply congrArg (Value.int .i64); omega) | simp), trivial⟩, ⟨h5, hl6, hS3, (by (try dsimp only); first | assumption | omega | simp), (by (try dsimp only); first | (rw [dropS_step_in hz_l_i c1, ← f2]; done) | (rw [dropS_step_out hz_l_i c1, ← f2]; done)), (by (try dsimp only); first | omega | (simp; omega))⟩, (by first | (simp only []; omega) | (simp; omega))⟩
    · skip
      refine WC.exit ?_
      refine then_exit ?_
      refine then_exit ?_
      refine block_exit ?_
      refine then_normal ?_
      refine WC.seq ?_
      refine WC.region ?_
      refine WL.val1 (R_move (v := .slice (acc_a) (acc).length (acc_c)) rfl) ?_
      refine WL.val1 (R_move (v := .slice (acc_a) (acc).length (acc_c)) rfl) ?_
      refine WL.val1 (R_len_slice (n := (acc).length) rfl Tryd.underlying23) ?_
      refine WL.val1 (R_move (v := .slice (l_a) (l).length (l_c)) rfl) ?_
      refine WL.val1 (R_len_slice (n := (l).length) rfl Tryd.underlying23) ?_
      refine WL.val1 (R_lss (a := (((acc).length : Nat) : Int)) (b := (((l).length : Nat) : Int)) rfl rfl) ?_
      refine WL.val1 (R_assign (v := .slice (acc_a) (acc).length (acc_c)) rfl) ?_
      refine WL.val1 (R_assign (v := .bool (decide ((((acc).length : Nat) : Int) < (((l).length : Nat) : Int)))) rfl) ?_
      refine WL.nil ?_
      refine then_normal ?_
      refine WC.ret ?_
      refine top_ret (.tuple #[.slice (acc_a) (acc).length (acc_c), .bool (decide ((((acc).length : Nat) : Int) < (((l).length : Nat) : Int)))]) (gives2 rfl rfl rfl) ?_
      obtain ⟨h24, hl25, hs26, hS27⟩ := hS3.growCommit (i := 0) rfl (Hp.le_refl _)
      have e_ : dropS l n = acc := by rw [f2, List.take_of_length_le (by omega)]
      exact ⟨h24, (hl6.trans hl25), ⟨acc_a, acc_c, (by rw [e_]), (by first | exact hs26 | (rw [e_]; exact hs26))⟩, hS27.pop⟩
set_option maxHeartbeats 400000 in
theorem ref02_Put (l : List File) (l_a : Option Addr) (l_c : Nat) (f : File) (hl : l.length ≤ 1000000) (hn : f.name.length ≤ 9223372036854775807) : FnC GG Tryd.prog 19 (fun h => Sl RFile h l l_a l_c) [.slice (l_a) (l).length (l_c), .agg #[.string (B (f.name)), .string (B (f.text))]] (fun h v => ∃ (a : Option Addr) (c : Nat), v = .tuple #[.slice (a) ((putFS l f).1).length (c), .int .i64 ((putFS l f).2)] ∧ (Sl RFile h (putFS l f).1 a c)) := by
  intro Γ h L w hpre hS
  have sl_l := hpre
  have hdl := dropS_len l f.name
  refine Ret.body Tryd.func19 rfl Tryd.ntmps19 (Nat.le_of_ble_eq_true rfl) ?_
  refine WC.seq ?_
  refine WC.region ?_
  refine S_box (l := [.string (B (f.name)), .string (B (f.text))]) (v := .agg #[.string (B (f.name)), .string (B (f.text))]) hS rfl rfl ?_
  intro w2 hS1
  refine WL.val1 (R_assign (v := .slice none 0 0) rfl) ?_
  refine WL.val1 (R_assign (v := .int .i64 (0)) rfl) ?_
  refine WL.nil ?_
  refine then_normal ?_
  refine WC.seq ?_
  refine WC.seq ?_
  refine WC.region ?_
  refine WL.val1 (R_fieldAddr (b := w.heap.size) (off := 0) (m := 0) rfl (fun _ => by kernel_rfl)) ?_
  refine WL.val1 (R_load (v := .string (B (f.name))) rfl (hS1.has (i := 0) rfl) (Tryd.isAgg9 _) rfl) ?_
  refine S_callP (vs := [.string (B (f.name))]) hS1 Tryd.call27 rfl (ref02_Name (f.name) (by first | assumption | omega)) trivial ?_
  intro w4 hS3
  refine WL.val1 (R_not (b := nameS f.name) rfl) ?_
  refine WL.nil ?_
  refine then_normal ?_
  refine WC.condI (¬ ((nameS f.name) = true)) (b := (!(nameS f.name))) rfl (b_not Iff.rfl) (fun c0 => ?_) (fun c0 => ?_)
  · skip
    refine WC.seq ?_
    refine WC.region ?_
    refine WL.val1 (R_assign (v := .slice none 0 0) rfl) ?_
    refine WL.val1 (R_assign (v := .int .i64 (2)) rfl) ?_
    refine WL.nil ?_
    refine then_normal ?_
    refine WC.ret ?_
    refine then_ret ?_
    refine top_ret (.tuple #[.slice none 0 0, .int .i64 (2)]) (gives2 rfl rfl rfl) ?_
    have e_ : putFS l f = ([], 2) := by rw [putFS, if_pos (by simpa using c0)]
    exact ⟨h, (Hp.le_refl _), ⟨none, 0, (by first | rfl | (rw [e_]; done) | (rw [e_]; rfl) | (simp; done)), (by first | exact Sl.nil _ _ _ _ | (rw [e_]; exact Sl.nil _ _ _ _))⟩, hS3.pop⟩
  · skip
    refine WC.skip ?_
    refine then_normal ?_
    refine WC.seq ?_
    refine WC.region ?_
    refine WL.val1 (R_move (v := .slice (l_a) (l).length (l_c)) rfl) ?_
    refine WL.val1 (R_fieldAddr (b := w.heap.size) (off := 0) (m := 0) rfl (fun _ => by kernel_rfl)) ?_
    refine WL.val1 (R_load (v := .string (B (f.name))) rfl (hS3.has (i := 0) rfl) (Tryd.isAgg9 _) rfl) ?_
    refine S_callF (vs := [.slice (l_a) (l).length (l_c), .string (B (f.name))]) hS3 Tryd.call28 rfl (ref02_Drop (l) (l_a) (l_c) (f.name) (by first | assumption | omega)) sl_l ?_
    intro h7 v9 w6 hl8 hp10 hS5
    obtain ⟨a11, c12, rfl, hf13⟩ := hp10
    refine WL.val1 (R_move (v := .tuple #[.slice (a11) ((dropS l f.name)).length (c12), .bool (decide ((((dropS l f.name).length : Nat) : Int) < (((l).length : Nat) : Int)))]) rfl) ?_
    refine WL.val1 (R_extract (vs := ([.slice (a11) ((dropS l f.name)).length (c12), .bool (decide ((((dropS l f.name).length : Nat) : Int) < (((l).length : Nat) : Int)))] : List Value).toArray) (v := .slice (a11) ((dropS l f.name)).length (c12)) rfl rfl) ?_
    refine WL.val1 (R_extract (vs := ([.slice (a11) ((dropS l f.name)).length (c12), .bool (decide ((((dropS l f.name).length : Nat) : Int) < (((l).length : Nat) : Int)))] : List Value).toArray) (v := .bool (decide ((((dropS l f.name).length : Nat) : Int) < (((l).length : Nat) : Int)))) rfl rfl) ?_
    refine WL.val1 (R_assign (v := .slice (a11) ((dropS l f.name)).length (c12)) rfl) ?_
    refine WL.val1 (R_assign (v := .bool (decide ((((dropS l f.name).length : Nat) : Int) < (((l).length : Nat) : Int)))) rfl) ?_
    refine WL.nil ?_
    refine then_normal ?_
    refine WC.seq ?_
    refine WC.seq ?_
    refine WC.region ?_
    refine WL.val1 (R_fieldAddr (b := w.heap.size) (off := 0) (m := 1) rfl (fun _ => by kernel_rfl)) ?_
    refine WL.val1 (R_load (v := .string (B (f.text))) rfl (hS5.has (i := 0) rfl) (Tryd.isAgg9 _) rfl) ?_
    refine WL.val1 (R_slen (a := f.text) rfl Tryd.underlying9) ?_
    refine WL.val1 (R_gtr (a := (((f.text).length : Nat) : Int)) (b := 4000) rfl rfl) ?_
    refine WL.val1 (R_move (v := .bool (decide (4000 < (((f.text).length : Nat) : Int)))) rfl) ?_
    refine WL.gpure (gd := (!(decide (4000 < (((f.text).length : Nat) : Int))))) (yl_f (d := 26) rfl rfl) (fun hg => R_move (v := .bool (decide ((((dropS l f.name).length : Nat) : Int) < (((l).length : Nat) : Int)))) rfl) ?_
    refine WL.gpure (gd := (!(decide (4000 < (((f.text).length : Nat) : Int))))) (yl_f (d := 26) rfl rfl) (fun hg => R_not (b := decide ((((dropS l f.name).length : Nat) : Int) < (((l).length : Nat) : Int))) (gvT hg rfl)) ?_
    refine WL.gpure (gd := (!(decide (4000 < (((f.text).length : Nat) : Int))))) (yl_f (d := 26) rfl rfl) (fun hg => R_move (v := .bool ((!(decide ((((dropS l f.name).length : Nat) : Int) < (((l).length : Nat) : Int)))))) (gvT hg rfl)) ?_
    refine WL.gpure (gd := (((!(decide (4000 < (((f.text).length : Nat) : Int))))) && ((!(decide ((((dropS l f.name).length : Nat) : Int) < (((l).length : Nat) : Int))))))) (ylg_t (d := 29) rfl rfl) (fun hg => R_move (v := .slice (l_a) (l).length (l_c)) rfl) ?_
    refine WL.gpure (gd := (((!(decide (4000 < (((f.text).length : Nat) : Int))))) && ((!(decide ((((dropS l f.name).length : Nat) : Int) < (((l).length : Nat) : Int))))))) (ylg_t (d := 29) rfl rfl) (fun hg => R_len_slice (n := (l).length) (gvT hg rfl) Tryd.underlying23) ?_
    refine WL.gpure (gd := (((!(decide (4000 < (((f.text).length : Nat) : Int))))) && ((!(decide ((((dropS l f.name).length : Nat) : Int) < (((l).length : Nat) : Int))))))) (ylg_t (d := 29) rfl rfl) (fun hg => R_geq (a := (((l).length : Nat) : Int)) (b := 32) (gvT hg rfl) rfl) ?_
    refine WL.gpure (gd := (!(decide (4000 < (((f.text).length : Nat) : Int))))) (yl_f (d := 26) rfl rfl) (fun hg => R_and (cb := (!(decide ((((dropS l f.name).length : Nat) : Int) < (((l).length : Nat) : Int))))) (yb := decide (32 ≤ (((l).length : Nat) : Int))) (gvT hg rfl) (gvA hg rfl) rfl) ?_
    refine WL.val1 (R_or (cb := decide (4000 < (((f.text).length : Nat) : Int))) (yb := ((!(decide ((((dropS l f.name).length : Nat) : Int) < (((l).length : Nat) : Int)))) && decide (32 ≤ (((l).length : Nat) : Int)))) rfl rfl rfl) ?_
    refine WL.nil ?_
    refine then_normal ?_
    refine WC.condI ((4000 < (((f.text).length : Nat) : Int) ∨ (¬ ((((dropS l f.name).length : Nat) : Int) < (((l).length : Nat) : Int)) ∧ 32 ≤ (((l).length : Nat) : Int)))) (b := (decide (4000 < (((f.text).length : Nat) : Int)) || ((!(decide ((((dropS l f.name).length : Nat) : Int) < (((l).length : Nat) : Int)))) && decide (32 ≤ (((l).length : Nat) : Int))))) rfl (b_or b_dec (b_and (b_not b_dec) b_dec)) (fun c1 => ?_) (fun c1 => ?_)
    · skip
      refine WC.seq ?_
      refine WC.region ?_
      refine WL.val1 (R_assign (v := .slice none 0 0) rfl) ?_
      refine WL.val1 (R_assign (v := .int .i64 (3)) rfl) ?_
      refine WL.nil ?_
      refine then_normal ?_
      refine WC.ret ?_
      refine then_ret ?_
      refine top_ret (.tuple #[.slice none 0 0, .int .i64 (3)]) (gives2 rfl rfl rfl) ?_
      have e_ : putFS l f = ([], 3) := by rw [putFS, if_neg (by simpa using c0), if_pos (by omega)]
      exact ⟨h7, hl8, ⟨none, 0, (by first | rfl | (rw [e_]; done) | (rw [e_]; rfl) | (simp; done)), (by first | exact Sl.nil _ _ _ _ | (rw [e_]; exact Sl.nil _ _ _ _))⟩, hS5.pop⟩
    · skip
      refine WC.skip ?_
      refine then_normal ?_
      refine WC.seq ?_
      refine WC.region ?_
      refine S_buildSlice0 (R := RFile) (e := 53) hS5 Tryd.underlying23 (Tryd.sizeOf53) ?_
      intro w15 hS14
      refine WL.val1 (R_assign (v := .slice (some ⟨w6.heap.size, 0, none⟩) 0 (0)) rfl) ?_
      refine WL.nil ?_
      refine then_normal ?_
      refine WC.seq ?_
      refine WC.seq ?_
      refine WC.region ?_
      refine WL.val1 (R_assign (v := .int .i64 (0)) rfl) ?_
      refine WL.nil ?_
      refine then_normal ?_
      refine WC.block ?_
      refine WC.loopL (σ := Nat × (List File) × (Option Addr) × Nat)
        (fun (q_ : Nat × (List File) × (Option Addr) × Nat) => (fun (i : Nat) (acc : List File) (acc_a : Option Addr) (acc_c : Nat) => [(3, .pointer (some ⟨w.heap.size, 0, none⟩)), (6, .slice (a11) ((dropS l f.name)).length (c12)), (8, .slice (acc_a) (acc).length (acc_c)), (9, .int .i64 (((i : Nat) : Int)))]) (q_.1) (q_.2.1) (q_.2.2.1) (q_.2.2.2))
        (fun (q_ : Nat × (List File) × (Option Addr) × Nat) (w_ : World) => (fun (i : Nat) (acc : List File) (acc_a : Option Addr) (acc_c : Nat) => ∃ h18 : Hp, h7.le h18 ∧ St Γ h18 (grow 53 RFile h18 (acc) (acc_a) (acc_c) :: row (w.heap.size) [.string (B (f.name)), .string (B (f.text))] 53 :: L) w_ ∧ (i ≤ (dropS l f.name).length) ∧ (acc ++ lessW ((dropS l f.name).drop i) f.name = lessW (dropS l f.name) f.name) ∧ (acc.length = i)) (q_.1) (q_.2.1) (q_.2.2.1) (q_.2.2.2))
        (fun (q_ : Nat × (List File) × (Option Addr) × Nat) => (fun (i : Nat) (acc : List File) (acc_a : Option Addr) (acc_c : Nat) => (dropS l f.name).length - i) (q_.1) (q_.2.1) (q_.2.2.1) (q_.2.2.2)) (0, ([] : List File), some ⟨w6.heap.size, 0, none⟩, 0) ?_ ?_ ?_
      · exact ⟨rfl, rfl, (by first | rfl | (apply congrArg (Value.int .i64); omega) | simp), (by first | rfl | (apply congrArg (Value.int .i64); omega) | simp), trivial⟩
      · exact ⟨h7, Hp.le_refl _, hS14, (by first | assumption | omega | simp), (by rfl), (by first | assumption | omega | simp)⟩
      · rintro ⟨i, acc, acc_a, acc_c⟩ r20 w17 ⟨h18, hl19, hS16, f1, f2, f3⟩
        try dsimp only at f1 f2 f3
        refine WC.seq ?_
        refine WC.seq ?_
        by_cases hlo : i < (dropS l f.name).length
        · skip
          obtain ⟨z_dropS_l_f_name_i, hz_dropS_l_f_name_i⟩ : ∃ z, ((dropS l f.name))[i]? = some z := ⟨_, List.getElem?_eq_getElem (by omega)⟩
          obtain ⟨b53, o54, cs58, ha55, hr56, hat57⟩ := (hf13.mono hl19).2 i z_dropS_l_f_name_i hz_dropS_l_f_name_i
          subst hr56
          refine WC.draw 12 [(3, .pointer (some ⟨w.heap.size, 0, none⟩)), (6, .slice (a11) ((dropS l f.name)).length (c12)), (8, .slice (acc_a) (acc).length (acc_c)), (9, .int .i64 (((i : Nat) : Int)))] [fun _ v => v = .int .i64 (((i : Nat) : Int)), fun _ v => v = .slice (a11) ((dropS l f.name)).length (c12), fun _ v => v = .int .i64 (((((dropS l f.name)).length : Nat) : Int)), fun _ v => v = .bool (true), fun _ v => v = .bool (true), fun _ v => v = .slice (a11) ((dropS l f.name)).length (c12), fun _ v => v = .int .i64 (((i : Nat) : Int)), fun _ v => v = .pointer (some ⟨b53, (o54 + i * RFile.n), none⟩), fun _ v => v = .pointer (some ⟨b53, (o54 + i * RFile.n), none⟩), fun _ v => v = .string (B (z_dropS_l_f_name_i.name)), fun _ v => v = .pointer (some ⟨w.heap.size, 0, none⟩), fun _ v => v = .string (B (f.name))] hS16 (by kernel_rfl) (by kernel_rfl) (MonoFs.pure (MonoFs.pure (MonoFs.pure (MonoFs.pure (MonoFs.pure (MonoFs.pure (MonoFs.pure (MonoFs.pure (MonoFs.pure (MonoFs.pure (MonoFs.pure (MonoFs.pure MonoFs.nil)))))))))))) ⟨rfl, rfl, rfl, rfl, trivial⟩ ⟨?_, ?_, ?_, ?_, ?_, ?_, ?_, ?_, ?_, ?_, ?_, ?_, trivial⟩ ?_
          · intro r_ w76 h77 hl78 hS75 hb_ hp_
            obtain ⟨b0_, b1_, b2_, b3_, _⟩ := hb_
            refine WL.val1 (R_move (v := .int .i64 (((i : Nat) : Int))) b3_) ?_
            refine WL.nil ?_
            exact ⟨rfl, _, _, rfl, (Hp.le_refl _), rfl, hS75⟩
          · intro r_ w80 h81 hl82 hS79 hb_ hp_
            obtain ⟨b0_, b1_, b2_, b3_, _⟩ := hb_
            refine WL.val1 (R_move (v := .slice (a11) ((dropS l f.name)).length (c12)) b1_) ?_
            refine WL.nil ?_
            exact ⟨rfl, _, _, rfl, (Hp.le_refl _), rfl, hS79⟩
          · intro r_ w84 h85 hl86 hS83 hb_ hp_
            obtain ⟨b0_, b1_, b2_, b3_, _⟩ := hb_
            obtain ⟨p0_, _⟩ := hp_
            have p0_ : r_ 37 = .slice (a11) ((dropS l f.name)).length (c12) := p0_
            refine WL.val1 (R_len_slice (n := ((dropS l f.name)).length) p0_ Tryd.underlying23) ?_
            refine WL.nil ?_
            exact ⟨rfl, _, _, rfl, (Hp.le_refl _), rfl, hS83⟩
          · intro r_ w88 h89 hl90 hS87 hb_ hp_
            obtain ⟨b0_, b1_, b2_, b3_, _⟩ := hb_
            obtain ⟨p0_, p1_, _⟩ := hp_
            have p0_ : r_ 36 = .int .i64 (((i : Nat) : Int)) := p0_
            have p1_ : r_ 38 = .int .i64 (((((dropS l f.name)).length : Nat) : Int)) := p1_
            refine WL.val1 (R_cast (R_lss (a := ((i : Nat) : Int)) (b := ((((dropS l f.name)).length : Nat) : Int)) p0_ p1_) (bool_true (by exact decide_eq_true (by omega)))) ?_
            refine WL.nil ?_
            exact ⟨rfl, _, _, rfl, (Hp.le_refl _), rfl, hS87⟩
          · intro r_ w92 h93 hl94 hS91 hb_ hp_
            obtain ⟨b0_, b1_, b2_, b3_, _⟩ := hb_
            obtain ⟨p0_, _⟩ := hp_
            have p0_ : r_ 39 = .bool (true) := p0_
            refine WL.val1 (R_move (v := .bool (true)) p0_) ?_
            refine WL.nil ?_
            exact ⟨rfl, _, _, rfl, (Hp.le_refl _), rfl, hS91⟩
          · intro r_ w96 h97 hl98 hS95 hb_ hp_
            obtain ⟨b0_, b1_, b2_, b3_, _⟩ := hb_
            obtain ⟨p0_, _⟩ := hp_
            have p0_ : r_ 40 = .bool (true) := p0_
            refine WL_unguard (yl_eq (d := 40) rfl p0_) ?_
            refine WL.val1 (R_move (v := .slice (a11) ((dropS l f.name)).length (c12)) b1_) ?_
            refine WL.nil ?_
            exact ⟨rfl, _, _, rfl, (Hp.le_refl _), rfl, hS95⟩
          · intro r_ w100 h101 hl102 hS99 hb_ hp_
            obtain ⟨b0_, b1_, b2_, b3_, _⟩ := hb_
            obtain ⟨p0_, _⟩ := hp_
            have p0_ : r_ 40 = .bool (true) := p0_
            refine WL_unguard (yl_eq (d := 40) rfl p0_) ?_
            refine WL.val1 (R_move (v := .int .i64 (((i : Nat) : Int))) b3_) ?_
            refine WL.nil ?_
            exact ⟨rfl, _, _, rfl, (Hp.le_refl _), rfl, hS99⟩
          · intro r_ w104 h105 hl106 hS103 hb_ hp_
            obtain ⟨b0_, b1_, b2_, b3_, _⟩ := hb_
            obtain ⟨p0_, p1_, p2_, _⟩ := hp_
            have p0_ : r_ 41 = .slice (a11) ((dropS l f.name)).length (c12) := p0_
            have p1_ : r_ 42 = .int .i64 (((i : Nat) : Int)) := p1_
            have p2_ : r_ 40 = .bool (true) := p2_
            refine WL_unguard (yl_eq (d := 40) rfl p2_) ?_
            refine WL.val1 (R_indexAddrE (i := ((i : Nat) : Int)) (m := i) ha55 p0_ p1_ Tryd.underlying23 (Tryd.sizeOf53 _) (by first | rfl | (omega)) (by omega)) ?_
            refine WL.nil ?_
            exact ⟨rfl, _, _, rfl, (Hp.le_refl _), rfl, hS103⟩
          · intro r_ w108 h109 hl110 hS107 hb_ hp_
            obtain ⟨b0_, b1_, b2_, b3_, _⟩ := hb_
            obtain ⟨p0_, p1_, _⟩ := hp_
            have p0_ : r_ 43 = .pointer (some ⟨b53, (o54 + i * RFile.n), none⟩) := p0_
            have p1_ : r_ 40 = .bool (true) := p1_
            refine WL_unguard (yl_eq (d := 40) rfl p1_) ?_
            refine WL.val1 (R_fieldAddr (b := b53) (off := (o54 + i * RFile.n)) (m := 0) p0_ (fun _ => by kernel_rfl)) ?_
            refine WL.nil ?_
            exact ⟨rfl, _, _, rfl, (Hp.le_refl _), rfl, hS107⟩
          · intro r_ w112 h113 hl114 hS111 hb_ hp_
            obtain ⟨b0_, b1_, b2_, b3_, _⟩ := hb_
            obtain ⟨p0_, p1_, _⟩ := hp_
            have p0_ : r_ 44 = .pointer (some ⟨b53, (o54 + i * RFile.n), none⟩) := p0_
            have p1_ : r_ 40 = .bool (true) := p1_
            refine WL_unguard (yl_eq (d := 40) rfl p1_) ?_
            refine WL.val1 (R_loadC (v := .string (B (z_dropS_l_f_name_i.name))) hS111 p0_ ((hat57.mono hl114).sub 0 1 (cs' := [.string (B (z_dropS_l_f_name_i.name))]) rfl) Tryd.isAgg9 rfl) ?_
            refine WL.nil ?_
            exact ⟨rfl, _, _, rfl, (Hp.le_refl _), rfl, hS111⟩
          · intro r_ w116 h117 hl118 hS115 hb_ hp_
            obtain ⟨b0_, b1_, b2_, b3_, _⟩ := hb_
            obtain ⟨p0_, _⟩ := hp_
            have p0_ : r_ 40 = .bool (true) := p0_
            refine WL_unguard (yl_eq (d := 40) rfl p0_) ?_
            refine WL.val1 (R_fieldAddr (b := w.heap.size) (off := 0) (m := 0) b0_ (fun _ => by kernel_rfl)) ?_
            refine WL.nil ?_
            exact ⟨rfl, _, _, rfl, (Hp.le_refl _), rfl, hS115⟩
          · intro r_ w120 h121 hl122 hS119 hb_ hp_
            obtain ⟨b0_, b1_, b2_, b3_, _⟩ := hb_
            obtain ⟨p0_, p1_, _⟩ := hp_
            have p0_ : r_ 46 = .pointer (some ⟨w.heap.size, 0, none⟩) := p0_
            have p1_ : r_ 40 = .bool (true) := p1_
            refine WL_unguard (yl_eq (d := 40) rfl p1_) ?_
            refine WL.val1 (R_load (v := .string (B (f.name))) p0_ (hS119.has (i := 1) rfl) (Tryd.isAgg9 _) rfl) ?_
            refine WL.nil ?_
            exact ⟨rfl, _, _, rfl, (Hp.le_refl _), rfl, hS119⟩
          · intro r_ w124 h125 hl126 hS123 hb_ hf_
            obtain ⟨b0_, b1_, b2_, b3_, _⟩ := hb_
            obtain ⟨q0_, q1_, q2_, q3_, q4_, q5_, q6_, q7_, q8_, q9_, q10_, q11_, _⟩ := hf_
            refine WL.frame [(3, .pointer (some ⟨w.heap.size, 0, none⟩)), (6, .slice (a11) ((dropS l f.name)).length (c12)), (8, .slice (acc_a) (acc).length (acc_c)), (9, .int .i64 (((i : Nat) : Int))), (36, .int .i64 (((i : Nat) : Int))), (37, .slice (a11) ((dropS l f.name)).length (c12)), (38, .int .i64 (((((dropS l f.name)).length : Nat) : Int))), (39, .bool (true)), (40, .bool (true)), (41, .slice (a11) ((dropS l f.name)).length (c12)), (42, .int .i64 (((i : Nat) : Int))), (43, .pointer (some ⟨b53, (o54 + i * RFile.n), none⟩)), (44, .pointer (some ⟨b53, (o54 + i * RFile.n), none⟩)), (45, .string (B (z_dropS_l_f_name_i.name))), (46, .pointer (some ⟨w.heap.size, 0, none⟩)), (47, .string (B (f.name)))] ⟨b0_, b1_, b2_, b3_, q0_, q1_, q2_, q3_, q4_, q5_, q6_, q7_, q8_, q9_, q10_, q11_, trivial⟩ (fun r_ => ?_)
            refine WL_unguard (yl_eq (d := 40) rfl rfl) ?_
            refine WL.val1 (R_slss (a := z_dropS_l_f_name_i.name) (b := f.name) rfl rfl) ?_
            refine WL.val1 (R_pick (cb := true) (v := .bool (Op.bytesLess z_dropS_l_f_name_i.name f.name)) rfl (fun _ => rfl) (fun h => by cases h)) ?_
            refine WL.nil ?_
            refine then_normal ?_
            refine WC.condI ((Op.bytesLess z_dropS_l_f_name_i.name f.name) = true) (b := Op.bytesLess z_dropS_l_f_name_i.name f.name) rfl Iff.rfl (fun c2 => ?_) (fun c2 => ?_)
            · skip
              refine WC.skip ?_
              refine then_normal ?_
              refine WC.seq ?_
              refine WC.block ?_
              refine WC.region ?_
              refine WL.val1 (R_move (v := .slice (acc_a) (acc).length (acc_c)) rfl) ?_
              refine WL.val1 (R_move (v := .slice (a11) ((dropS l f.name)).length (c12)) rfl) ?_
              refine WL.val1 (R_move (v := .int .i64 (((i : Nat) : Int))) rfl) ?_
              refine WL.val1 (R_indexAddrE (i := ((i : Nat) : Int)) (m := i) ha55 rfl rfl Tryd.underlying23 (Tryd.sizeOf53 _) (by first | rfl | (omega)) (by omega)) ?_
              refine WL.val1 (R_loadCA (cs := [.string (B (z_dropS_l_f_name_i.name)), .string (B (z_dropS_l_f_name_i.text))]) hS123 rfl (hat57.mono hl126) Tryd.isAgg53 Tryd.sizeOf53 rfl) ?_
              refine S_buildSliceC (R := RFile) (m := 1) (vs := [(0, .agg #[.string (B (z_dropS_l_f_name_i.name)), .string (B (z_dropS_l_f_name_i.text))])]) (cells := [.string (B (z_dropS_l_f_name_i.name)), .string (B (z_dropS_l_f_name_i.text))]) (xs := [z_dropS_l_f_name_i]) hS123 Tryd.underlying23 Tryd.sizeOf53 Tryd.zeroValue53 (by decide) (by decide) rfl (by kernel_rfl) (by exact (⟨[.string (B (z_dropS_l_f_name_i.name)), .string (B (z_dropS_l_f_name_i.text))], _, rfl, rfl, rfl⟩ : Flat RFile _ [z_dropS_l_f_name_i] _)) rfl ?_
              intro h129 b131 w128 hl130 hs132 hS127
              refine S_append (info := Tryd.t53) (R := RFile) (xs := acc) (ys := [z_dropS_l_f_name_i]) (a := acc_a) (c := acc_c) 0 Tryd.underlying23 (by kernel_rfl) rfl rfl rfl (by decide) 32 rfl hS127 rfl (hl126.trans hl130) hs132 rfl rfl (by (try simp only [List.length_append, List.length_cons, List.length_nil]); omega) (by (try simp only [List.length_append, List.length_cons, List.length_nil]); omega) ?_
              intro a133 c134 w135 hS136
              refine WL.val1 (R_assign (v := .slice (a133) ((acc ++ [z_dropS_l_f_name_i])).length (c134)) rfl) ?_
              refine WL.nil ?_
              refine block_normal ?_
              refine then_normal ?_
              refine WC.region ?_
              refine WL.val1 (R_move (v := .int .i64 (((i : Nat) : Int))) rfl) ?_
              refine WL.val1 (R_add_i (a := ((i : Nat) : Int)) (b := 1) rfl rfl (by omega)) ?_
              refine WL.val1 (R_assign (v := .int .i64 ((((i : Nat) : Int) + 1))) rfl) ?_
              refine WL.nil ?_
              refine then_normal ?_
              exact ⟨(i + 1, (acc ++ [z_dropS_l_f_name_i]), a133, c134), ⟨rfl, rfl, (by first | rfl | (apply congrArg (Value.int .i64); omega) | simp), (by first | rfl | (apply congrArg (Value.int .i64); omega) | simp), trivial⟩, ⟨h129, ((hl19.trans hl126).trans hl130), hS136, (by (try dsimp only); first | assumption | omega | simp), (by (try dsimp only); rw [← f2, lessW_step hz_dropS_l_f_name_i c2]; (try simp only [List.append_assoc, List.cons_append, List.nil_append])), (by (try dsimp only); simp; omega)⟩, (by first | (simp only []; omega) | (simp; omega))⟩
            · skip
              refine WC.exit ?_
              refine then_exit ?_
              refine then_exit ?_
              refine block_exit ?_
              refine then_normal ?_
              refine WC.seq ?_
              refine WC.region ?_
              refine WL.val1 (R_move (v := .slice (acc_a) (acc).length (acc_c)) rfl) ?_
              refine WL.val1 (R_len_slice (n := (acc).length) rfl Tryd.underlying23) ?_
              refine WL.val1 (R_assign (v := .int .i64 ((((acc).length : Nat) : Int))) rfl) ?_
              refine WL.nil ?_
              refine then_normal ?_
              refine WC.seq ?_
              refine WC.region ?_
              refine WL.val1 (R_move (v := .slice (acc_a) (acc).length (acc_c)) rfl) ?_
              refine WL.val1 (R_loadA (cs := [.string (B (f.name)), .string (B (f.text))]) rfl (hS123.has (i := 1) rfl) (Tryd.isAgg53 _) (Tryd.sizeOf53 _) rfl (sub_cells rfl)) ?_
              refine S_buildSliceC (R := RFile) (m := 1) (vs := [(0, .agg #[.string (B (f.name)), .string (B (f.text))])]) (cells := [.string (B (f.name)), .string (B (f.text))]) (xs := [{ name := f.name, text := f.text : File }]) hS123 Tryd.underlying23 Tryd.sizeOf53 Tryd.zeroValue53 (by decide) (by decide) rfl (by kernel_rfl) (by exact (⟨[.string (B (f.name)), .string (B (f.text))], _, rfl, rfl, rfl⟩ : Flat RFile _ [{ name := f.name, text := f.text : File }] _)) rfl ?_
              intro h139 b141 w138 hl140 hs142 hS137
              refine S_append (info := Tryd.t53) (R := RFile) (xs := acc) (ys := [{ name := f.name, text := f.text : File }]) (a := acc_a) (c := acc_c) 0 Tryd.underlying23 (by kernel_rfl) rfl rfl rfl (by decide) 32 rfl hS137 rfl (hl126.trans hl140) hs142 rfl rfl (by (try simp only [List.length_append, List.length_cons, List.length_nil]); omega) (by (try simp only [List.length_append, List.length_cons, List.length_nil]); omega) ?_
              intro a143 c144 w145 hS146
              refine WL.val1 (R_assign (v := .slice (a143) ((acc ++ [{ name := f.name, text := f.text : File }])).length (c144)) rfl) ?_
              refine WL.nil ?_
              refine then_normal ?_
              refine WC.seq ?_
              refine WC.region ?_
              refine WL.val1 (R_move (v := .slice (a143) ((acc ++ [{ name := f.name, text := f.text : File }])).length (c144)) rfl) ?_
              refine WL.val1 (R_move (v := .slice (a11) ((dropS l f.name)).length (c12)) rfl) ?_
              refine WL.val1 (R_move (v := .int .i64 ((((acc).length : Nat) : Int))) rfl) ?_
              obtain ⟨a147, ha148⟩ : ∃ a_ : Option Addr, a_ = (if c12 = (acc).length then a11 else (a11 : Option Addr).map (·.add ((acc).length * 2))) := ⟨_, rfl⟩
              have hs149 := (by rw [ha148]; exact ((hf13.mono ((hl19.trans hl126).trans hl140)).from (acc).length (by omega)) : Sl RFile h139 ((dropS l f.name).drop (acc).length) a147 ((c12 - (acc).length)))
              refine WL.val1 (R_cast (v' := .slice (a147) (((dropS l f.name).drop (acc).length)).length ((c12 - (acc).length))) (R_sll (m := (acc).length) rfl rfl Tryd.underlying23 (Tryd.sizeOf53 _) (by first | rfl | (omega)) (by omega)) (by rw [ha148]; exact congrArg (fun q_ => Value.slice _ q_ _) (by (try simp only [List.length_drop, List.length_append, List.length_cons, List.length_nil]); try omega))) ?_
              refine S_append (info := Tryd.t53) (R := RFile) (xs := (acc ++ [{ name := f.name, text := f.text : File }])) (ys := ((dropS l f.name).drop (acc).length)) (a := a143) (c := c144) 0 Tryd.underlying23 (by kernel_rfl) rfl rfl rfl (by decide) 32 rfl hS146 rfl (Hp.le_refl _) hs149 rfl rfl (by (try simp only [List.length_append, List.length_cons, List.length_nil, List.length_drop]); omega) (by (try simp only [List.length_append, List.length_cons, List.length_nil, List.length_drop]); omega) ?_
              intro a150 c151 w152 hS153
              refine WL.val1 (R_assign (v := .slice (a150) (((acc ++ [{ name := f.name, text := f.text : File }]) ++ ((dropS l f.name).drop (acc).length))).length (c151)) rfl) ?_
              refine WL.nil ?_
              refine then_normal ?_
              refine WC.seq ?_
              refine WC.region ?_
              refine WL.val1 (R_move (v := .slice (a150) (((acc ++ [{ name := f.name, text := f.text : File }]) ++ ((dropS l f.name).drop (acc).length))).length (c151)) rfl) ?_
              refine WL.val1 (R_assign (v := .slice (a150) (((acc ++ [{ name := f.name, text := f.text : File }]) ++ ((dropS l f.name).drop (acc).length))).length (c151)) rfl) ?_
              refine WL.val1 (R_assign (v := .int .i64 (0)) rfl) ?_
              refine WL.nil ?_
              refine then_normal ?_
              refine WC.ret ?_
              refine top_ret (.tuple #[.slice (a150) (((acc ++ [{ name := f.name, text := f.text : File }]) ++ ((dropS l f.name).drop (acc).length))).length (c151), .int .i64 (0)]) (gives2 rfl rfl rfl) ?_
              obtain ⟨h154, hl155, hs156, hS157⟩ := hS153.growCommit (i := 0) rfl (Hp.le_refl _)
              have e1_ : lessW (dropS l f.name) f.name = acc := by rw [← f2, lessW_stop (fun x hx => by rw [hz_dropS_l_f_name_i] at hx; injection hx with hx; subst hx; exact bool_no c2), List.append_nil]
              have e_ : putFS l f = (acc ++ [f] ++ (dropS l f.name).drop acc.length, 0) := by rw [putFS, if_neg (by simpa using c0), if_neg (by omega), e1_]
              exact ⟨h154, ((((hl8.trans hl19).trans hl126).trans hl140).trans hl155), ⟨a150, c151, (by first | rfl | (rw [e_]; done) | (rw [e_]; rfl) | (simp; done)), (by first | exact hs156 | (rw [e_]; exact hs156))⟩, hS157.pop.pop⟩
        · skip
          refine WC.draw 12 [(3, .pointer (some ⟨w.heap.size, 0, none⟩)), (6, .slice (a11) ((dropS l f.name)).length (c12)), (8, .slice (acc_a) (acc).length (acc_c)), (9, .int .i64 (((i : Nat) : Int)))] [fun _ v => v = .int .i64 (((i : Nat) : Int)), fun _ v => v = .slice (a11) ((dropS l f.name)).length (c12), fun _ v => v = .int .i64 (((((dropS l f.name)).length : Nat) : Int)), fun _ v => v = .bool (false), fun _ v => v = .bool (false), fun _ v => v = undef, fun _ v => v = undef, fun _ v => v = undef, fun _ v => v = undef, fun _ v => v = undef, fun _ v => v = undef, fun _ v => v = undef] hS16 (by kernel_rfl) (by kernel_rfl) (MonoFs.pure (MonoFs.pure (MonoFs.pure (MonoFs.pure (MonoFs.pure (MonoFs.pure (MonoFs.pure (MonoFs.pure (MonoFs.pure (MonoFs.pure (MonoFs.pure (MonoFs.pure MonoFs.nil)))))))))))) ⟨rfl, rfl, rfl, rfl, trivial⟩ ⟨?_, ?_, ?_, ?_, ?_, ?_, ?_, ?_, ?_, ?_, ?_, ?_, trivial⟩ ?_
          · intro r_ w207 h208 hl209 hS206 hb_ hp_
            obtain ⟨b0_, b1_, b2_, b3_, _⟩ := hb_
            refine WL.val1 (R_move (v := .int .i64 (((i : Nat) : Int))) b3_) ?_
            refine WL.nil ?_
            exact ⟨rfl, _, _, rfl, (Hp.le_refl _), rfl, hS206⟩
          · intro r_ w211 h212 hl213 hS210 hb_ hp_
            obtain ⟨b0_, b1_, b2_, b3_, _⟩ := hb_
            refine WL.val1 (R_move (v := .slice (a11) ((dropS l f.name)).length (c12)) b1_) ?_
            refine WL.nil ?_
            exact ⟨rfl, _, _, rfl, (Hp.le_refl _), rfl, hS210⟩
          · intro r_ w215 h216 hl217 hS214 hb_ hp_
            obtain ⟨b0_, b1_, b2_, b3_, _⟩ := hb_
            obtain ⟨p0_, _⟩ := hp_
            have p0_ : r_ 37 = .slice (a11) ((dropS l f.name)).length (c12) := p0_
            refine WL.val1 (R_len_slice (n := ((dropS l f.name)).length) p0_ Tryd.underlying23) ?_
            refine WL.nil ?_
            exact ⟨rfl, _, _, rfl, (Hp.le_refl _), rfl, hS214⟩
          · intro r_ w219 h220 hl221 hS218 hb_ hp_
            obtain ⟨b0_, b1_, b2_, b3_, _⟩ := hb_
            obtain ⟨p0_, p1_, _⟩ := hp_
            have p0_ : r_ 36 = .int .i64 (((i : Nat) : Int)) := p0_
            have p1_ : r_ 38 = .int .i64 (((((dropS l f.name)).length : Nat) : Int)) := p1_
            refine WL.val1 (R_cast (R_lss (a := ((i : Nat) : Int)) (b := ((((dropS l f.name)).length : Nat) : Int)) p0_ p1_) (bool_false (by exact decide_eq_false (by omega)))) ?_
            refine WL.nil ?_
            exact ⟨rfl, _, _, rfl, (Hp.le_refl _), rfl, hS218⟩
          · intro r_ w223 h224 hl225 hS222 hb_ hp_
            obtain ⟨b0_, b1_, b2_, b3_, _⟩ := hb_
            obtain ⟨p0_, _⟩ := hp_
            have p0_ : r_ 39 = .bool (false) := p0_
            refine WL.val1 (R_move (v := .bool (false)) p0_) ?_
            refine WL.nil ?_
            exact ⟨rfl, _, _, rfl, (Hp.le_refl _), rfl, hS222⟩
          · intro r_ w227 h228 hl229 hS226 hb_ hp_
            obtain ⟨b0_, b1_, b2_, b3_, _⟩ := hb_
            obtain ⟨p0_, _⟩ := hp_
            have p0_ : r_ 40 = .bool (false) := p0_
            refine WL.skip (.inl (yl_eq (d := 40) rfl p0_)) ?_
            refine WL.nil ?_
            exact ⟨rfl, _, _, rfl, (Hp.le_refl _), rfl, hS226⟩
          · intro r_ w231 h232 hl233 hS230 hb_ hp_
            obtain ⟨b0_, b1_, b2_, b3_, _⟩ := hb_
            obtain ⟨p0_, _⟩ := hp_
            have p0_ : r_ 40 = .bool (false) := p0_
            refine WL.skip (.inl (yl_eq (d := 40) rfl p0_)) ?_
            refine WL.nil ?_
            exact ⟨rfl, _, _, rfl, (Hp.le_refl _), rfl, hS230⟩
          · intro r_ w235 h236 hl237 hS234 hb_ hp_
            obtain ⟨b0_, b1_, b2_, b3_, _⟩ := hb_
            obtain ⟨p0_, p1_, p2_, _⟩ := hp_
            have p0_ : r_ 41 = undef := p0_
            have p1_ : r_ 42 = undef := p1_
            have p2_ : r_ 40 = .bool (false) := p2_
            refine WL.skip (.inl (yl_eq (d := 40) rfl p2_)) ?_
            refine WL.nil ?_
            exact ⟨rfl, _, _, rfl, (Hp.le_refl _), rfl, hS234⟩
          · intro r_ w239 h240 hl241 hS238 hb_ hp_
            obtain ⟨b0_, b1_, b2_, b3_, _⟩ := hb_
            obtain ⟨p0_, p1_, _⟩ := hp_
            have p0_ : r_ 43 = undef := p0_
            have p1_ : r_ 40 = .bool (false) := p1_
            refine WL.skip (.inl (yl_eq (d := 40) rfl p1_)) ?_
            refine WL.nil ?_
            exact ⟨rfl, _, _, rfl, (Hp.le_refl _), rfl, hS238⟩
          · intro r_ w243 h244 hl245 hS242 hb_ hp_
            obtain ⟨b0_, b1_, b2_, b3_, _⟩ := hb_
            obtain ⟨p0_, p1_, _⟩ := hp_
            have p0_ : r_ 44 = undef := p0_
            have p1_ : r_ 40 = .bool (false) := p1_
            refine WL.skip (.inl (yl_eq (d := 40) rfl p1_)) ?_
            refine WL.nil ?_
            exact ⟨rfl, _, _, rfl, (Hp.le_refl _), rfl, hS242⟩
          · intro r_ w247 h248 hl249 hS246 hb_ hp_
            obtain ⟨b0_, b1_, b2_, b3_, _⟩ := hb_
            obtain ⟨p0_, _⟩ := hp_
            have p0_ : r_ 40 = .bool (false) := p0_
            refine WL.skip (.inl (yl_eq (d := 40) rfl p0_)) ?_
            refine WL.nil ?_
            exact ⟨rfl, _, _, rfl, (Hp.le_refl _), rfl, hS246⟩
          · intro r_ w251 h252 hl253 hS250 hb_ hp_
            obtain ⟨b0_, b1_, b2_, b3_, _⟩ := hb_
            obtain ⟨p0_, p1_, _⟩ := hp_
            have p0_ : r_ 46 = undef := p0_
            have p1_ : r_ 40 = .bool (false) := p1_
            refine WL.skip (.inl (yl_eq (d := 40) rfl p1_)) ?_
            refine WL.nil ?_
            exact ⟨rfl, _, _, rfl, (Hp.le_refl _), rfl, hS250⟩
          · intro r_ w255 h256 hl257 hS254 hb_ hf_
            obtain ⟨b0_, b1_, b2_, b3_, _⟩ := hb_
            obtain ⟨q0_, q1_, q2_, q3_, q4_, q5_, q6_, q7_, q8_, q9_, q10_, q11_, _⟩ := hf_
            refine WL.frame [(3, .pointer (some ⟨w.heap.size, 0, none⟩)), (6, .slice (a11) ((dropS l f.name)).length (c12)), (8, .slice (acc_a) (acc).length (acc_c)), (9, .int .i64 (((i : Nat) : Int))), (36, .int .i64 (((i : Nat) : Int))), (37, .slice (a11) ((dropS l f.name)).length (c12)), (38, .int .i64 (((((dropS l f.name)).length : Nat) : Int))), (39, .bool (false)), (40, .bool (false)), (41, undef), (42, undef), (43, undef), (44, undef), (45, undef), (46, undef), (47, undef)] ⟨b0_, b1_, b2_, b3_, q0_, q1_, q2_, q3_, q4_, q5_, q6_, q7_, q8_, q9_, q10_, q11_, trivial⟩ (fun r_ => ?_)
            refine WL.skip (.inl (yl_eq (d := 40) rfl rfl)) ?_
            refine WL.val1 (R_pick (cb := false) (v := .bool (false)) rfl (fun h => by cases h) (fun _ => rfl)) ?_
            refine WL.nil ?_
            refine then_normal ?_
            refine WC.condF rfl ?_
            refine WC.exit ?_
            refine then_exit ?_
            refine then_exit ?_
            refine block_exit ?_
            refine then_normal ?_
            refine WC.seq ?_
            refine WC.region ?_
            refine WL.val1 (R_move (v := .slice (acc_a) (acc).length (acc_c)) rfl) ?_
            refine WL.val1 (R_len_slice (n := (acc).length) rfl Tryd.underlying23) ?_
            refine WL.val1 (R_assign (v := .int .i64 ((((acc).length : Nat) : Int))) rfl) ?_
            refine WL.nil ?_
            refine then_normal ?_
            refine WC.seq ?_
            refine WC.region ?_
            refine WL.val1 (R_move (v := .slice (acc_a) (acc).length (acc_c)) rfl) ?_
            refine WL.val1 (R_loadA (cs := [.string (B (f.name)), .string (B (f.text))]) rfl (hS254.has (i := 1) rfl) (Tryd.isAgg53 _) (Tryd.sizeOf53 _) rfl (sub_cells rfl)) ?_
            refine S_buildSliceC (R := RFile) (m := 1) (vs := [(0, .agg #[.string (B (f.name)), .string (B (f.text))])]) (cells := [.string (B (f.name)), .string (B (f.text))]) (xs := [{ name := f.name, text := f.text : File }]) hS254 Tryd.underlying23 Tryd.sizeOf53 Tryd.zeroValue53 (by decide) (by decide) rfl (by kernel_rfl) (by exact (⟨[.string (B (f.name)), .string (B (f.text))], _, rfl, rfl, rfl⟩ : Flat RFile _ [{ name := f.name, text := f.text : File }] _)) rfl ?_
            intro h260 b262 w259 hl261 hs263 hS258
            refine S_append (info := Tryd.t53) (R := RFile) (xs := acc) (ys := [{ name := f.name, text := f.text : File }]) (a := acc_a) (c := acc_c) 0 Tryd.underlying23 (by kernel_rfl) rfl rfl rfl (by decide) 32 rfl hS258 rfl (hl257.trans hl261) hs263 rfl rfl (by (try simp only [List.length_append, List.length_cons, List.length_nil]); omega) (by (try simp only [List.length_append, List.length_cons, List.length_nil]); omega) ?_
            intro a264 c265 w266 hS267
            refine WL.val1 (R_assign (v := .slice (a264) ((acc ++ [{ name := f.name, text := f.text : File }])).length (c265)) rfl) ?_
            refine WL.nil ?_
            refine then_normal ?_
            refine WC.seq ?_
            refine WC.region ?_
            refine WL.val1 (R_move (v := .slice (a264) ((acc ++ [{ name := f.name, text := f.text : File }])).length (c265)) rfl) ?_
            refine WL.val1 (R_move (v := .slice (a11) ((dropS l f.name)).length (c12)) rfl) ?_
            refine WL.val1 (R_move (v := .int .i64 ((((acc).length : Nat) : Int))) rfl) ?_
            obtain ⟨a268, ha269⟩ : ∃ a_ : Option Addr, a_ = (if c12 = (acc).length then a11 else (a11 : Option Addr).map (·.add ((acc).length * 2))) := ⟨_, rfl⟩
            have hs270 := (by rw [ha269]; exact ((hf13.mono ((hl19.trans hl257).trans hl261)).from (acc).length (by omega)) : Sl RFile h260 ((dropS l f.name).drop (acc).length) a268 ((c12 - (acc).length)))
            refine WL.val1 (R_cast (v' := .slice (a268) (((dropS l f.name).drop (acc).length)).length ((c12 - (acc).length))) (R_sll (m := (acc).length) rfl rfl Tryd.underlying23 (Tryd.sizeOf53 _) (by first | rfl | (omega)) (by omega)) (by rw [ha269]; exact congrArg (fun q_ => Value.slice _ q_ _) (by (try simp only [List.length_drop, List.length_append, List.length_cons, List.length_nil]); try omega))) ?_
            refine S_append (info := Tryd.t53) (R := RFile) (xs := (acc ++ [{ name := f.name, text := f.text : File }])) (ys := ((dropS l f.name).drop (acc).length)) (a := a264) (c := c265) 0 Tryd.underlying23 (by kernel_rfl) rfl rfl rfl (by decide) 32 rfl hS267 rfl (Hp.le_refl _) hs270 rfl rfl (by (try simp only [List.length_append, List.length_cons, List.length_nil, List.length_drop]); omega) (by (try simp only [List.length_append, List.length_cons, List.length_nil, List.length_drop]); omega) ?_
            intro a271 c272 w273 hS274
            refine WL.val1 (R_assign (v := .slice (a271) (((acc ++ [{ name := f.name, text := f.text : File }]) ++ ((dropS l f.name).drop (acc).length))).length (c272)) rfl) ?_
            refine WL.nil ?_
            refine then_normal ?_
            refine WC.seq ?_
            refine WC.region ?_
            refine WL.val1 (R_move (v := .slice (a271) (((acc ++ [{ name := f.name, text := f.text : File }]) ++ ((dropS l f.name).drop (acc).length))).length (c272)) rfl) ?_
            refine WL.val1 (R_assign (v := .slice (a271) (((acc ++ [{ name := f.name, text := f.text : File }]) ++ ((dropS l f.name).drop (acc).length))).length (c272)) rfl) ?_
            refine WL.val1 (R_assign (v := .int .i64 (0)) rfl) ?_
            refine WL.nil ?_
            refine then_normal ?_
            refine WC.ret ?_
            refine top_ret (.tuple #[.slice (a271) (((acc ++ [{ name := f.name, text := f.text : File }]) ++ ((dropS l f.name).drop (acc).length))).length (c272), .int .i64 (0)]) (gives2 rfl rfl rfl) ?_
            obtain ⟨h275, hl276, hs277, hS278⟩ := hS274.growCommit (i := 0) rfl (Hp.le_refl _)
            have e1_ : lessW (dropS l f.name) f.name = acc := by rw [← f2, lessW_stop (fun x hx => by have := lt_of_some hx; omega), List.append_nil]
            have e_ : putFS l f = (acc ++ [f] ++ (dropS l f.name).drop acc.length, 0) := by rw [putFS, if_neg (by simpa using c0), if_neg (by omega), e1_]
            exact ⟨h275, ((((hl8.trans hl19).trans hl257).trans hl261).trans hl276), ⟨a271, c272, (by first | rfl | (rw [e_]; done) | (rw [e_]; rfl) | (simp; done)), (by first | exact hs277 | (rw [e_]; exact hs277))⟩, hS278.pop.pop⟩
set_option maxHeartbeats 400000 in
theorem ref02_Map (files : List File) (files_a : Option Addr) (files_c : Nat) (most : Int) (long : Int) (hmo : 0 ≤ most ∧ most ≤ 1000) (hlo : 0 ≤ long ∧ long ≤ 1000000) (hbig : ∀ x ∈ files, x.name.length ≤ 9223372036854775807) : FnC GG Tryd.prog 5 (fun h => Sl RFile h files files_a files_c) [.slice (files_a) (files).length (files_c), .int .i64 (most), .int .i64 (long)] (fun h v => ∃ (a : Option Addr) (c : Nat), v = .slice (a) ((mapS files most long)).length (c) ∧ (Sl RFile h (mapS files most long) a c)) := by
  intro Γ h L w hpre hS
  have sl_files := hpre
  refine Ret.body Tryd.func5 rfl Tryd.ntmps5 (Nat.le_of_ble_eq_true rfl) ?_
  refine WC.seq ?_
  refine WC.region ?_
  refine WL.val1 (R_assign (v := .slice none 0 0) rfl) ?_
  refine WL.nil ?_
  refine then_normal ?_
  refine WC.seq ?_
  refine WC.region ?_
  refine S_buildSlice0 (R := RFile) (e := 53) hS Tryd.underlying23 (Tryd.sizeOf53) ?_
  intro w2 hS1
  refine WL.val1 (R_assign (v := .slice (some ⟨w.heap.size, 0, none⟩) 0 (0)) rfl) ?_
  refine WL.nil ?_
  refine then_normal ?_
  refine WC.seq ?_
  refine WC.seq ?_
  obtain ⟨h3, hl4, hs5, hS6⟩ := hS1.growCommit (i := 0) rfl (Hp.le_refl _)
  refine WC.region ?_
  refine WL.val1 (R_assign (v := .int .i64 (0)) rfl) ?_
  refine WL.nil ?_
  refine then_normal ?_
  refine WC.block ?_
  refine WC.loopL (σ := Nat × (List File) × (Option Addr) × Nat)
    (fun (q_ : Nat × (List File) × (Option Addr) × Nat) => (fun (i : Nat) (m : List File) (m_a : Option Addr) (m_c : Nat) => [(0, .slice (files_a) (files).length (files_c)), (1, .int .i64 (most)), (2, .int .i64 (long)), (7, .slice (m_a) (m).length (m_c)), (8, .int .i64 (((i : Nat) : Int)))]) (q_.1) (q_.2.1) (q_.2.2.1) (q_.2.2.2))
    (fun (q_ : Nat × (List File) × (Option Addr) × Nat) (w_ : World) => (fun (i : Nat) (m : List File) (m_a : Option Addr) (m_c : Nat) => ∃ h9 : Hp, h3.le h9 ∧ St Γ h9 (emp :: L) w_ ∧ (i ≤ files.length ∧ (i : Int) ≤ most) ∧ (mapF long m ((files.take most.toNat).drop i) = mapS files most long) ∧ (rightS m = true) ∧ (Sl RFile h9 m m_a m_c)) (q_.1) (q_.2.1) (q_.2.2.1) (q_.2.2.2))
    (fun (q_ : Nat × (List File) × (Option Addr) × Nat) => (fun (i : Nat) (m : List File) (m_a : Option Addr) (m_c : Nat) => files.length - i) (q_.1) (q_.2.1) (q_.2.2.1) (q_.2.2.2)) (0, ([] : List File), some ⟨w.heap.size, 0, none⟩, 0) ?_ ?_ ?_
  · exact ⟨rfl, rfl, rfl, (by first | rfl | (apply congrArg (Value.int .i64); omega) | simp), (by first | rfl | (apply congrArg (Value.int .i64); omega) | simp), trivial⟩
  · exact ⟨h3, Hp.le_refl _, hS6, (by first | assumption | omega | simp), (by rfl), (by rfl), (by exact hs5)⟩
  · rintro ⟨i, m, m_a, m_c⟩ r11 w8 ⟨h9, hl10, hS7, f1, f2, f3, sl_m⟩
    try dsimp only at f1 f2 f3 sl_m
    have f5 := rightS_len f3
    refine WC.seq ?_
    refine WC.seq ?_
    refine WC.region ?_
    refine WL.val1 (R_move (v := .int .i64 (((i : Nat) : Int))) rfl) ?_
    refine WL.val1 (R_move (v := .slice (files_a) (files).length (files_c)) rfl) ?_
    refine WL.val1 (R_len_slice (n := (files).length) rfl Tryd.underlying23) ?_
    refine WL.val1 (R_lss (a := ((i : Nat) : Int)) (b := (((files).length : Nat) : Int)) rfl rfl) ?_
    refine WL.val1 (R_move (v := .bool (decide (((i : Nat) : Int) < (((files).length : Nat) : Int)))) rfl) ?_
    refine WL.gpure (gd := decide (((i : Nat) : Int) < (((files).length : Nat) : Int))) (yl_t (d := 17) rfl rfl) (fun hg => R_move (v := .int .i64 (((i : Nat) : Int))) rfl) ?_
    refine WL.gpure (gd := decide (((i : Nat) : Int) < (((files).length : Nat) : Int))) (yl_t (d := 17) rfl rfl) (fun hg => R_move (v := .int .i64 (most)) rfl) ?_
    refine WL.gpure (gd := decide (((i : Nat) : Int) < (((files).length : Nat) : Int))) (yl_t (d := 17) rfl rfl) (fun hg => R_lss (a := ((i : Nat) : Int)) (b := most) (gvT hg rfl) (gvT hg rfl)) ?_
    refine WL.val1 (R_and (cb := decide (((i : Nat) : Int) < (((files).length : Nat) : Int))) (yb := decide (((i : Nat) : Int) < most)) rfl rfl rfl) ?_
    refine WL.nil ?_
    refine then_normal ?_
    refine WC.condI ((((i : Nat) : Int) < (((files).length : Nat) : Int) ∧ ((i : Nat) : Int) < most)) (b := (decide (((i : Nat) : Int) < (((files).length : Nat) : Int)) && decide (((i : Nat) : Int) < most))) rfl (b_and b_dec b_dec) (fun c0 => ?_) (fun c0 => ?_)
    · skip
      refine WC.skip ?_
      refine then_normal ?_
      refine WC.seq ?_
      refine WC.block ?_
      refine WC.seq ?_
      refine WC.region ?_
      refine WL.val1 (R_move (v := .slice (files_a) (files).length (files_c)) rfl) ?_
      refine WL.val1 (R_move (v := .int .i64 (((i : Nat) : Int))) rfl) ?_
      obtain ⟨z_files_i, hz_files_i⟩ : ∃ z, (files)[i]? = some z := ⟨_, List.getElem?_eq_getElem (by omega)⟩
      obtain ⟨b12, o13, cs17, ha14, hr15, hat16⟩ := (sl_files.mono (hl4.trans hl10)).2 i z_files_i hz_files_i
      subst hr15
      have hb_files_i := hbig z_files_i (List.mem_of_getElem? hz_files_i)
      refine WL.val1 (R_indexAddrE (i := ((i : Nat) : Int)) (m := i) ha14 rfl rfl Tryd.underlying23 (Tryd.sizeOf53 _) (by first | rfl | (omega)) (by omega)) ?_
      refine WL.val1 (R_loadCA (cs := [.string (B (z_files_i.name)), .string (B (z_files_i.text))]) hS7 rfl hat16 Tryd.isAgg53 Tryd.sizeOf53 rfl) ?_
      refine S_alloc hS7 Tryd.zeroValue53 ?_
      intro w19 hS18
      refine S_store (i := 0) (b := w8.heap.size) (l := [.string (B (([] : Str))), .string (B (([] : Str)))]) (l' := [.string (B (z_files_i.name)), .string (B (z_files_i.text))]) (vs := [.string (B (z_files_i.name)), .string (B (z_files_i.text))]) (v := .agg #[.string (B (z_files_i.name)), .string (B (z_files_i.text))]) hS18 rfl rfl rfl Tryd.sizeOf53 rfl rfl rfl (Nat.le_of_ble_eq_true rfl) rfl rfl ?_
      intro w21 hS20
      refine WL.nil ?_
      refine then_normal ?_
      refine WC.seq ?_
      refine WC.region ?_
      refine WL.val1 (R_fieldAddr (b := w8.heap.size) (off := 0) (m := 1) rfl (fun _ => by kernel_rfl)) ?_
      refine WL.val1 (R_load (v := .string (B (z_files_i.text))) rfl (hS20.has (i := 0) rfl) (Tryd.isAgg9 _) rfl) ?_
      refine WL.val1 (R_fieldAddr (b := w8.heap.size) (off := 0) (m := 1) rfl (fun _ => by kernel_rfl)) ?_
      refine WL.val1 (R_load (v := .string (B (z_files_i.text))) rfl (hS20.has (i := 0) rfl) (Tryd.isAgg9 _) rfl) ?_
      refine WL.val1 (R_slen (a := z_files_i.text) rfl Tryd.underlying9) ?_
      refine WL.val1 (R_move (v := .int .i64 (long)) rfl) ?_
      refine WL.val1 (R_min (a := (((z_files_i.text).length : Nat) : Int)) (b := long) rfl rfl) ?_
      refine WL.val1 (R_sslice_h (a := z_files_i.text) (j := (min ((((z_files_i.text).length : Nat) : Int)) (long))) (n := ((min ((((z_files_i.text).length : Nat) : Int)) (long))).toNat) rfl rfl Tryd.underlying9 (by first | rfl | (omega)) (by omega)) ?_
      refine WL.val1 (R_fieldAddr (b := w8.heap.size) (off := 0) (m := 1) rfl (fun _ => by kernel_rfl)) ?_
      refine S_store (i := 0) (b := w8.heap.size) (l := [.string (B (z_files_i.name)), .string (B (z_files_i.text))]) (l' := [.string (B (z_files_i.name)), .string (B ((z_files_i.text.take ((min ((((z_files_i.text).length : Nat) : Int)) (long))).toNat)))]) (vs := [.string (B ((z_files_i.text.take ((min ((((z_files_i.text).length : Nat) : Int)) (long))).toNat)))]) (v := .string (B ((z_files_i.text.take ((min ((((z_files_i.text).length : Nat) : Int)) (long))).toNat)))) hS20 rfl rfl rfl Tryd.sizeOf9 rfl rfl rfl (Nat.le_of_ble_eq_true rfl) rfl rfl ?_
      intro w23 hS22
      refine WL.nil ?_
      refine then_normal ?_
      refine WC.seq ?_
      refine WC.region ?_
      refine WL.val1 (R_move (v := .slice (m_a) (m).length (m_c)) rfl) ?_
      refine WL.val1 (R_loadA (cs := [.string (B (z_files_i.name)), .string (B ((z_files_i.text.take ((min ((((z_files_i.text).length : Nat) : Int)) (long))).toNat)))]) rfl (hS22.has (i := 0) rfl) (Tryd.isAgg53 _) (Tryd.sizeOf53 _) rfl (sub_cells rfl)) ?_
      refine S_callF (vs := [.slice (m_a) (m).length (m_c), .agg #[.string (B (z_files_i.name)), .string (B ((z_files_i.text.take ((min ((((z_files_i.text).length : Nat) : Int)) (long))).toNat)))]]) hS22 Tryd.call19 rfl (ref02_Put (m) (m_a) (m_c) ({ name := z_files_i.name, text := (z_files_i.text.take ((min ((((z_files_i.text).length : Nat) : Int)) (long))).toNat) : File }) (by first | assumption | omega) (by first | assumption | omega)) sl_m ?_
      intro h26 v28 w25 hl27 hp29 hS24
      obtain ⟨a30, c31, rfl, hf32⟩ := hp29
      refine WL.val1 (R_move (v := .tuple #[.slice (a30) ((putFS m ({ name := z_files_i.name, text := (z_files_i.text.take ((min ((((z_files_i.text).length : Nat) : Int)) (long))).toNat) : File })).1).length (c31), .int .i64 ((putFS m ({ name := z_files_i.name, text := (z_files_i.text.take ((min ((((z_files_i.text).length : Nat) : Int)) (long))).toNat) : File })).2)]) rfl) ?_
      refine WL.val1 (R_extract (vs := ([.slice (a30) ((putFS m ({ name := z_files_i.name, text := (z_files_i.text.take ((min ((((z_files_i.text).length : Nat) : Int)) (long))).toNat) : File })).1).length (c31), .int .i64 ((putFS m ({ name := z_files_i.name, text := (z_files_i.text.take ((min ((((z_files_i.text).length : Nat) : Int)) (long))).toNat) : File })).2)] : List Value).toArray) (v := .slice (a30) ((putFS m ({ name := z_files_i.name, text := (z_files_i.text.take ((min ((((z_files_i.text).length : Nat) : Int)) (long))).toNat) : File })).1).length (c31)) rfl rfl) ?_
      refine WL.val1 (R_extract (vs := ([.slice (a30) ((putFS m ({ name := z_files_i.name, text := (z_files_i.text.take ((min ((((z_files_i.text).length : Nat) : Int)) (long))).toNat) : File })).1).length (c31), .int .i64 ((putFS m ({ name := z_files_i.name, text := (z_files_i.text.take ((min ((((z_files_i.text).length : Nat) : Int)) (long))).toNat) : File })).2)] : List Value).toArray) (v := .int .i64 ((putFS m ({ name := z_files_i.name, text := (z_files_i.text.take ((min ((((z_files_i.text).length : Nat) : Int)) (long))).toNat) : File })).2)) rfl rfl) ?_
      refine WL.val1 (R_assign (v := .slice (a30) ((putFS m ({ name := z_files_i.name, text := (z_files_i.text.take ((min ((((z_files_i.text).length : Nat) : Int)) (long))).toNat) : File })).1).length (c31)) rfl) ?_
      refine WL.val1 (R_assign (v := .int .i64 ((putFS m ({ name := z_files_i.name, text := (z_files_i.text.take ((min ((((z_files_i.text).length : Nat) : Int)) (long))).toNat) : File })).2)) rfl) ?_
      refine WL.nil ?_
      refine then_normal ?_
      refine WC.seq ?_
      refine WC.region ?_
      refine WL.val1 (R_move (v := .int .i64 ((putFS m ({ name := z_files_i.name, text := (z_files_i.text.take ((min ((((z_files_i.text).length : Nat) : Int)) (long))).toNat) : File })).2)) rfl) ?_
      refine WL.val1 (R_eql (a := (putFS m ({ name := z_files_i.name, text := (z_files_i.text.take ((min ((((z_files_i.text).length : Nat) : Int)) (long))).toNat) : File })).2) (b := 0) rfl rfl) ?_
      refine WL.nil ?_
      refine then_normal ?_
      refine WC.condP ((putFS m ({ name := z_files_i.name, text := (z_files_i.text.take ((min ((((z_files_i.text).length : Nat) : Int)) (long))).toNat) : File })).2 = 0) rfl (fun c1 => ?_) (fun c1 => ?_)
      · skip
        refine WC.region ?_
        refine WL.val1 (R_move (v := .slice (a30) ((putFS m ({ name := z_files_i.name, text := (z_files_i.text.take ((min ((((z_files_i.text).length : Nat) : Int)) (long))).toNat) : File })).1).length (c31)) rfl) ?_
        refine WL.val1 (R_assign (v := .slice (a30) ((putFS m ({ name := z_files_i.name, text := (z_files_i.text.take ((min ((((z_files_i.text).length : Nat) : Int)) (long))).toNat) : File })).1).length (c31)) rfl) ?_
        refine WL.nil ?_
        refine block_normal ?_
        refine then_normal ?_
        refine WC.region ?_
        refine WL.val1 (R_move (v := .int .i64 (((i : Nat) : Int))) rfl) ?_
        refine WL.val1 (R_add_i (a := ((i : Nat) : Int)) (b := 1) rfl rfl (by omega)) ?_
        refine WL.val1 (R_assign (v := .int .i64 ((((i : Nat) : Int) + 1))) rfl) ?_
        refine WL.nil ?_
        refine then_normal ?_
        exact ⟨(i + 1, (putFS m ({ name := z_files_i.name, text := (z_files_i.text.take ((min ((((z_files_i.text).length : Nat) : Int)) (long))).toNat) : File })).1, a30, c31), ⟨rfl, rfl, rfl, (by first | rfl | (apply congrArg (Value.int .i64); omega) | simp), (by first | rfl | (apply congrArg (Value.int .i64); omega) | simp), trivial⟩, ⟨h26, (hl10.trans hl27), hS24.pop, (by (try dsimp only); first | assumption | omega | simp), (by (try dsimp only); rw [← f2, mapF_step hz_files_i (by omega) long m]; (first | rw [if_pos c1] | rw [if_neg c1])), (by (try dsimp only); first | exact putFS_right f3 c1 | exact f3), (by (try dsimp only); exact hf32)⟩, (by first | (simp only []; omega) | (simp; omega))⟩
      · skip
        refine WC.skip ?_
        refine block_normal ?_
        refine then_normal ?_
        refine WC.region ?_
        refine WL.val1 (R_move (v := .int .i64 (((i : Nat) : Int))) rfl) ?_
        refine WL.val1 (R_add_i (a := ((i : Nat) : Int)) (b := 1) rfl rfl (by omega)) ?_
        refine WL.val1 (R_assign (v := .int .i64 ((((i : Nat) : Int) + 1))) rfl) ?_
        refine WL.nil ?_
        refine then_normal ?_
        exact ⟨(i + 1, m, m_a, m_c), ⟨rfl, rfl, rfl, (by first | rfl | (apply congrArg (Value.int .i64); omega) | simp), (by first | rfl | (apply congrArg (Value.int .i64); omega) | simp), trivial⟩, ⟨h26, (hl10.trans hl27), hS24.pop, (by (try dsimp only); first | assumption | omega | simp), (by (try dsimp only); rw [← f2, mapF_step hz_files_i (by omega) long m]; (first | rw [if_pos c1] | rw [if_neg c1])), (by (try dsimp only); first | exact putFS_right f3 c1 | exact f3), (by (try dsimp only); exact (sl_m.mono hl27))⟩, (by first | (simp only []; omega) | (simp; omega))⟩
    · skip
      refine WC.exit ?_
      refine then_exit ?_
      refine then_exit ?_
      refine block_exit ?_
      refine then_normal ?_
      refine WC.seq ?_
      refine WC.region ?_
      refine WL.val1 (R_move (v := .slice (m_a) (m).length (m_c)) rfl) ?_
      refine WL.val1 (R_assign (v := .slice (m_a) (m).length (m_c)) rfl) ?_
      refine WL.nil ?_
      refine then_normal ?_
      refine WC.ret ?_
      refine top_ret (.slice (m_a) (m).length (m_c)) (gives1 rfl rfl) ?_
      have e_ : mapS files most long = m := by rw [← f2, mapF_end (by omega)]
      exact ⟨h9, (hl4.trans hl10), ⟨m_a, m_c, (by rw [e_]), (by first | exact sl_m | (rw [e_]; exact sl_m))⟩, hS7.pop⟩
set_option maxHeartbeats 400000 in
theorem ref20_Look (fs : List File) (fs_a : Option Addr) (fs_c : Nat) (ns : List Str) (ns_a : Option Addr) (ns_c : Nat) (hl : fs.length ≤ 1000000) (hn : ns.length ≤ 1000000) : FnC GG Tryd.prog 9 (fun h => Sl RFile h fs fs_a fs_c ∧ Sl Rstr h ns ns_a ns_c) [.slice (fs_a) (fs).length (fs_c), .slice (ns_a) (ns).length (ns_c)] (fun h v => ∃ (a : Option Addr) (c : Nat), v = .slice (a) ((refLookS fs ns)).length (c) ∧ (Sl RSeen2 h (refLookS fs ns) a c)) := by
  intro Γ h L w hpre hS
  obtain ⟨sl_fs, sl_ns⟩ := hpre
  refine Ret.body Tryd.func9 rfl Tryd.ntmps9 (Nat.le_of_ble_eq_true rfl) ?_
  refine WC.seq ?_
  refine WC.region ?_
  refine WL.val1 (R_assign (v := .slice none 0 0) rfl) ?_
  refine WL.nil ?_
  refine then_normal ?_
  refine WC.seq ?_
  refine WC.region ?_
  refine S_buildSlice0 (R := RSeen2) (e := 57) hS Tryd.underlying28 (Tryd.sizeOf57) ?_
  intro w2 hS1
  refine WL.val1 (R_assign (v := .slice (some ⟨w.heap.size, 0, none⟩) 0 (0)) rfl) ?_
  refine WL.nil ?_
  refine then_normal ?_
  refine WC.seq ?_
  refine WC.seq ?_
  refine WC.region ?_
  refine WL.val1 (R_assign (v := .int .i64 (0)) rfl) ?_
  refine WL.nil ?_
  refine then_normal ?_
  refine WC.block ?_
  refine WC.loopL (σ := Nat × (List Seen) × (Option Addr) × Nat)
    (fun (q_ : Nat × (List Seen) × (Option Addr) × Nat) => (fun (i : Nat) (acc : List Seen) (acc_a : Option Addr) (acc_c : Nat) => [(0, .slice (fs_a) (fs).length (fs_c)), (1, .slice (ns_a) (ns).length (ns_c)), (5, .slice (acc_a) (acc).length (acc_c)), (6, .int .i64 (((i : Nat) : Int)))]) (q_.1) (q_.2.1) (q_.2.2.1) (q_.2.2.2))
    (fun (q_ : Nat × (List Seen) × (Option Addr) × Nat) (w_ : World) => (fun (i : Nat) (acc : List Seen) (acc_a : Option Addr) (acc_c : Nat) => ∃ h5 : Hp, h.le h5 ∧ St Γ h5 (grow 57 RSeen2 h5 (acc) (acc_a) (acc_c) :: L) w_ ∧ (i ≤ ns.length) ∧ (acc ++ refLookF fs (ns.take i) (ns.drop i) = refLookS fs ns) ∧ (acc.length ≤ i)) (q_.1) (q_.2.1) (q_.2.2.1) (q_.2.2.2))
    (fun (q_ : Nat × (List Seen) × (Option Addr) × Nat) => (fun (i : Nat) (acc : List Seen) (acc_a : Option Addr) (acc_c : Nat) => ns.length - i) (q_.1) (q_.2.1) (q_.2.2.1) (q_.2.2.2)) (0, ([] : List Seen), some ⟨w.heap.size, 0, none⟩, 0) ?_ ?_ ?_
  · exact ⟨rfl, rfl, (by first | rfl | (apply congrArg (Value.int .i64); omega) | simp), (by first | rfl | (apply congrArg (Value.int .i64); omega) | simp), trivial⟩
  · exact ⟨h, Hp.le_refl _, hS1, (by first | assumption | omega | simp), (by rfl), (by first | assumption | omega | simp)⟩
  · rintro ⟨i, acc, acc_a, acc_c⟩ r7 w4 ⟨h5, hl6, hS3, f1, f2, f3⟩
    try dsimp only at f1 f2 f3
    refine WC.seq ?_
    refine WC.seq ?_
    refine WC.region ?_
    refine WL.val1 (R_move (v := .int .i64 (((i : Nat) : Int))) rfl) ?_
    refine WL.val1 (R_move (v := .slice (ns_a) (ns).length (ns_c)) rfl) ?_
    refine WL.val1 (R_len_slice (n := (ns).length) rfl Tryd.underlying24) ?_
    refine WL.val1 (R_lss (a := ((i : Nat) : Int)) (b := (((ns).length : Nat) : Int)) rfl rfl) ?_
    refine WL.nil ?_
    refine then_normal ?_
    refine WC.condP (((i : Nat) : Int) < (((ns).length : Nat) : Int)) rfl (fun c0 => ?_) (fun c0 => ?_)
    · skip
      refine WC.skip ?_
      refine then_normal ?_
      refine WC.seq ?_
      refine WC.block ?_
      refine WC.seq ?_
      refine WC.region ?_
      refine WL.val1 (R_assign (v := .bool (false)) rfl) ?_
      refine WL.nil ?_
      refine then_normal ?_
      refine WC.seq ?_
      refine WC.seq ?_
      refine WC.region ?_
      refine WL.val1 (R_assign (v := .int .i64 (0)) rfl) ?_
      refine WL.nil ?_
      refine then_normal ?_
      refine WC.block ?_
      refine WC.loopL (σ := Nat × Bool)
        (fun (q_ : Nat × Bool) => (fun (j : Nat) (b : Bool) => [(0, .slice (fs_a) (fs).length (fs_c)), (1, .slice (ns_a) (ns).length (ns_c)), (5, .slice (acc_a) (acc).length (acc_c)), (6, .int .i64 (((i : Nat) : Int))), (7, .bool (b)), (8, .int .i64 (((j : Nat) : Int)))]) (q_.1) (q_.2))
        (fun (q_ : Nat × Bool) (w_ : World) => (fun (j : Nat) (b : Bool) => ∃ h10 : Hp, h5.le h10 ∧ St Γ h10 (grow 57 RSeen2 h10 (acc) (acc_a) (acc_c) :: L) w_ ∧ (j ≤ i) ∧ (b = decide (partS ns i ∈ ns.take j))) (q_.1) (q_.2))
        (fun (q_ : Nat × Bool) => (fun (j : Nat) (b : Bool) => i - j) (q_.1) (q_.2)) (0, false) ?_ ?_ ?_
      · exact ⟨rfl, rfl, rfl, rfl, (by first | rfl | (apply congrArg (Value.int .i64); omega) | simp), (by first | rfl | (apply congrArg (Value.int .i64); omega) | simp), trivial⟩
      · exact ⟨h5, Hp.le_refl _, hS3, (by first | assumption | omega | simp), (by simp)⟩
      · rintro ⟨j, b⟩ r12 w9 ⟨h10, hl11, hS8, g1, g2⟩
        try dsimp only at g1 g2
        refine WC.seq ?_
        refine WC.seq ?_
        refine WC.region ?_
        refine WL.val1 (R_move (v := .int .i64 (((j : Nat) : Int))) rfl) ?_
        refine WL.val1 (R_move (v := .int .i64 (((i : Nat) : Int))) rfl) ?_
        refine WL.val1 (R_lss (a := ((j : Nat) : Int)) (b := ((i : Nat) : Int)) rfl rfl) ?_
        refine WL.nil ?_
        refine then_normal ?_
        refine WC.condP (((j : Nat) : Int) < ((i : Nat) : Int)) rfl (fun c1 => ?_) (fun c1 => ?_)
        · skip
          refine WC.skip ?_
          refine then_normal ?_
          refine WC.seq ?_
          refine WC.block ?_
          obtain ⟨z_ns_j, hz_ns_j⟩ : ∃ z, (ns)[j]? = some z := ⟨_, List.getElem?_eq_getElem (by omega)⟩
          obtain ⟨b33, o34, cs38, ha35, hr36, hat37⟩ := (sl_ns.mono (hl6.trans hl11)).2 j z_ns_j hz_ns_j
          subst hr36
          obtain ⟨z_ns_i, hz_ns_i⟩ : ∃ z, (ns)[i]? = some z := ⟨_, List.getElem?_eq_getElem (by omega)⟩
          obtain ⟨b55, o56, cs60, ha57, hr58, hat59⟩ := (sl_ns.mono (hl6.trans hl11)).2 i z_ns_i hz_ns_i
          subst hr58
          refine WC.draw 10 [(0, .slice (fs_a) (fs).length (fs_c)), (1, .slice (ns_a) (ns).length (ns_c)), (5, .slice (acc_a) (acc).length (acc_c)), (6, .int .i64 (((i : Nat) : Int))), (7, .bool (b)), (8, .int .i64 (((j : Nat) : Int)))] [fun _ v => v = .bool (b), fun _ v => v = .bool (b), fun _ v => v = gv ((!(b))) (.slice (ns_a) (ns).length (ns_c)), fun _ v => v = gv ((!(b))) (.int .i64 (((j : Nat) : Int))), fun _ v => v = gv ((!(b))) (.pointer (some ⟨b33, (o34 + j * Rstr.n), none⟩)), fun _ v => v = gv ((!(b))) (.string (B (z_ns_j))), fun _ v => v = gv ((!(b))) (.slice (ns_a) (ns).length (ns_c)), fun _ v => v = gv ((!(b))) (.int .i64 (((i : Nat) : Int))), fun _ v => v = gv ((!(b))) (.pointer (some ⟨b55, (o56 + i * Rstr.n), none⟩)), fun _ v => v = gv ((!(b))) (.string (B (z_ns_i)))] hS8 (by kernel_rfl) (by kernel_rfl) (MonoFs.pure (MonoFs.pure (MonoFs.pure (MonoFs.pure (MonoFs.pure (MonoFs.pure (MonoFs.pure (MonoFs.pure (MonoFs.pure (MonoFs.pure MonoFs.nil)))))))))) ⟨rfl, rfl, rfl, rfl, rfl, rfl, trivial⟩ ⟨?_, ?_, ?_, ?_, ?_, ?_, ?_, ?_, ?_, ?_, trivial⟩ ?_
          · intro r_ w66 h67 hl68 hS65 hb_ hp_
            obtain ⟨b0_, b1_, b2_, b3_, b4_, b5_, _⟩ := hb_
            refine WL.val1 (R_move (v := .bool (b)) b4_) ?_
            refine WL.nil ?_
            exact ⟨rfl, _, _, rfl, (Hp.le_refl _), rfl, hS65⟩
          · intro r_ w70 h71 hl72 hS69 hb_ hp_
            obtain ⟨b0_, b1_, b2_, b3_, b4_, b5_, _⟩ := hb_
            obtain ⟨p0_, _⟩ := hp_
            have p0_ : r_ 23 = .bool (b) := p0_
            refine WL.val1 (R_move (v := .bool (b)) p0_) ?_
            refine WL.nil ?_
            exact ⟨rfl, _, _, rfl, (Hp.le_refl _), rfl, hS69⟩
          · intro r_ w74 h75 hl76 hS73 hb_ hp_
            obtain ⟨b0_, b1_, b2_, b3_, b4_, b5_, _⟩ := hb_
            obtain ⟨p0_, _⟩ := hp_
            have p0_ : r_ 24 = .bool (b) := p0_
            refine WL.gpure (gd := (!(b))) (yl_f (d := 24) rfl p0_) (fun hg => R_move (v := .slice (ns_a) (ns).length (ns_c)) b1_) ?_
            refine WL.nil ?_
            exact ⟨rfl, _, _, rfl, (Hp.le_refl _), rfl, hS73⟩
          · intro r_ w78 h79 hl80 hS77 hb_ hp_
            obtain ⟨b0_, b1_, b2_, b3_, b4_, b5_, _⟩ := hb_
            obtain ⟨p0_, _⟩ := hp_
            have p0_ : r_ 24 = .bool (b) := p0_
            refine WL.gpure (gd := (!(b))) (yl_f (d := 24) rfl p0_) (fun hg => R_move (v := .int .i64 (((j : Nat) : Int))) b5_) ?_
            refine WL.nil ?_
            exact ⟨rfl, _, _, rfl, (Hp.le_refl _), rfl, hS77⟩
          · intro r_ w82 h83 hl84 hS81 hb_ hp_
            obtain ⟨b0_, b1_, b2_, b3_, b4_, b5_, _⟩ := hb_
            obtain ⟨p0_, p1_, p2_, _⟩ := hp_
            have p0_ : r_ 25 = gv ((!(b))) (.slice (ns_a) (ns).length (ns_c)) := p0_
            have p1_ : r_ 26 = gv ((!(b))) (.int .i64 (((j : Nat) : Int))) := p1_
            have p2_ : r_ 24 = .bool (b) := p2_
            refine WL.gpure (gd := (!(b))) (yl_f (d := 24) rfl p2_) (fun hg => R_indexAddrE (i := ((j : Nat) : Int)) (m := j) ha35 (gvT hg p0_) (gvT hg p1_) Tryd.underlying24 (Tryd.sizeOf9 _) (by first | rfl | (have hg_ := ((b_not Iff.rfl)).1 hg; omega)) (by have hg_ := ((b_not Iff.rfl)).1 hg; omega)) ?_
            refine WL.nil ?_
            exact ⟨rfl, _, _, rfl, (Hp.le_refl _), rfl, hS81⟩
          · intro r_ w86 h87 hl88 hS85 hb_ hp_
            obtain ⟨b0_, b1_, b2_, b3_, b4_, b5_, _⟩ := hb_
            obtain ⟨p0_, p1_, _⟩ := hp_
            have p0_ : r_ 27 = gv ((!(b))) (.pointer (some ⟨b33, (o34 + j * Rstr.n), none⟩)) := p0_
            have p1_ : r_ 24 = .bool (b) := p1_
            refine WL.gpure (gd := (!(b))) (yl_f (d := 24) rfl p1_) (fun hg => R_loadC (v := .string (B (z_ns_j))) hS85 (gvT hg p0_) (hat37.mono hl88) Tryd.isAgg9 rfl) ?_
            refine WL.nil ?_
            exact ⟨rfl, _, _, rfl, (Hp.le_refl _), rfl, hS85⟩
          · intro r_ w90 h91 hl92 hS89 hb_ hp_
            obtain ⟨b0_, b1_, b2_, b3_, b4_, b5_, _⟩ := hb_
            obtain ⟨p0_, _⟩ := hp_
            have p0_ : r_ 24 = .bool (b) := p0_
            refine WL.gpure (gd := (!(b))) (yl_f (d := 24) rfl p0_) (fun hg => R_move (v := .slice (ns_a) (ns).length (ns_c)) b1_) ?_
            refine WL.nil ?_
            exact ⟨rfl, _, _, rfl, (Hp.le_refl _), rfl, hS89⟩
          · intro r_ w94 h95 hl96 hS93 hb_ hp_
            obtain ⟨b0_, b1_, b2_, b3_, b4_, b5_, _⟩ := hb_
            obtain ⟨p0_, _⟩ := hp_
            have p0_ : r_ 24 = .bool (b) := p0_
            refine WL.gpure (gd := (!(b))) (yl_f (d := 24) rfl p0_) (fun hg => R_move (v := .int .i64 (((i : Nat) : Int))) b3_) ?_
            refine WL.nil ?_
            exact ⟨rfl, _, _, rfl, (Hp.le_refl _), rfl, hS93⟩
          · intro r_ w98 h99 hl100 hS97 hb_ hp_
            obtain ⟨b0_, b1_, b2_, b3_, b4_, b5_, _⟩ := hb_
            obtain ⟨p0_, p1_, p2_, _⟩ := hp_
            have p0_ : r_ 29 = gv ((!(b))) (.slice (ns_a) (ns).length (ns_c)) := p0_
            have p1_ : r_ 30 = gv ((!(b))) (.int .i64 (((i : Nat) : Int))) := p1_
            have p2_ : r_ 24 = .bool (b) := p2_
            refine WL.gpure (gd := (!(b))) (yl_f (d := 24) rfl p2_) (fun hg => R_indexAddrE (i := ((i : Nat) : Int)) (m := i) ha57 (gvT hg p0_) (gvT hg p1_) Tryd.underlying24 (Tryd.sizeOf9 _) (by first | rfl | (have hg_ := ((b_not Iff.rfl)).1 hg; omega)) (by have hg_ := ((b_not Iff.rfl)).1 hg; omega)) ?_
            refine WL.nil ?_
            exact ⟨rfl, _, _, rfl, (Hp.le_refl _), rfl, hS97⟩
          · intro r_ w102 h103 hl104 hS101 hb_ hp_
            obtain ⟨b0_, b1_, b2_, b3_, b4_, b5_, _⟩ := hb_
            obtain ⟨p0_, p1_, _⟩ := hp_
            have p0_ : r_ 31 = gv ((!(b))) (.pointer (some ⟨b55, (o56 + i * Rstr.n), none⟩)) := p0_
            have p1_ : r_ 24 = .bool (b) := p1_
            refine WL.gpure (gd := (!(b))) (yl_f (d := 24) rfl p1_) (fun hg => R_loadC (v := .string (B (z_ns_i))) hS101 (gvT hg p0_) (hat59.mono hl104) Tryd.isAgg9 rfl) ?_
            refine WL.nil ?_
            exact ⟨rfl, _, _, rfl, (Hp.le_refl _), rfl, hS101⟩
          · intro r_ w106 h107 hl108 hS105 hb_ hf_
            obtain ⟨b0_, b1_, b2_, b3_, b4_, b5_, _⟩ := hb_
            obtain ⟨q0_, q1_, q2_, q3_, q4_, q5_, q6_, q7_, q8_, q9_, _⟩ := hf_
            refine WL.frame [(0, .slice (fs_a) (fs).length (fs_c)), (1, .slice (ns_a) (ns).length (ns_c)), (5, .slice (acc_a) (acc).length (acc_c)), (6, .int .i64 (((i : Nat) : Int))), (7, .bool (b)), (8, .int .i64 (((j : Nat) : Int))), (23, .bool (b)), (24, .bool (b)), (25, gv ((!(b))) (.slice (ns_a) (ns).length (ns_c))), (26, gv ((!(b))) (.int .i64 (((j : Nat) : Int)))), (27, gv ((!(b))) (.pointer (some ⟨b33, (o34 + j * Rstr.n), none⟩))), (28, gv ((!(b))) (.string (B (z_ns_j)))), (29, gv ((!(b))) (.slice (ns_a) (ns).length (ns_c))), (30, gv ((!(b))) (.int .i64 (((i : Nat) : Int)))), (31, gv ((!(b))) (.pointer (some ⟨b55, (o56 + i * Rstr.n), none⟩))), (32, gv ((!(b))) (.string (B (z_ns_i))))] ⟨b0_, b1_, b2_, b3_, b4_, b5_, q0_, q1_, q2_, q3_, q4_, q5_, q6_, q7_, q8_, q9_, trivial⟩ (fun r_ => ?_)
            refine WL.gpure (gd := (!(b))) (yl_f (d := 24) rfl rfl) (fun hg => R_seql (a := z_ns_j) (b := z_ns_i) (gvT hg rfl) (gvT hg rfl)) ?_
            refine WL.val1 (R_or (cb := b) (yb := decide (z_ns_j = z_ns_i)) rfl rfl rfl) ?_
            refine WL.val1 (R_assign (v := .bool ((b || decide (z_ns_j = z_ns_i)))) rfl) ?_
            refine WL.nil ?_
            refine block_normal ?_
            refine then_normal ?_
            refine WC.region ?_
            refine WL.val1 (R_move (v := .int .i64 (((j : Nat) : Int))) rfl) ?_
            refine WL.val1 (R_add_i (a := ((j : Nat) : Int)) (b := 1) rfl rfl (by omega)) ?_
            refine WL.val1 (R_assign (v := .int .i64 ((((j : Nat) : Int) + 1))) rfl) ?_
            refine WL.nil ?_
            refine then_normal ?_
            have hS109 := hS105.growMono (i := 0) rfl hl108
            exact ⟨(j + 1, (b || decide (z_ns_j = z_ns_i))), ⟨rfl, rfl, rfl, rfl, (by first | rfl | (apply congrArg (Value.int .i64); omega) | simp), (by first | rfl | (apply congrArg (Value.int .i64); omega) | simp), trivial⟩, ⟨h107, (hl11.trans hl108), hS109, (by (try dsimp only); first | assumption | omega | simp), (by (try dsimp only); rw [takeAny hz_ns_j, ← g2, partS_at hz_ns_i])⟩, (by first | (simp only []; omega) | (simp; omega))⟩
        · skip
          refine WC.exit ?_
          refine then_exit ?_
          refine then_exit ?_
          refine block_exit ?_
          refine then_normal ?_
          refine WC.seq ?_
          refine WC.region ?_
          refine WL.val1 (R_move (v := .bool (b)) rfl) ?_
          refine WL.val1 (R_not (b := b) rfl) ?_
          refine WL.nil ?_
          refine then_normal ?_
          refine WC.condI (¬ ((b) = true)) (b := (!(b))) rfl (b_not Iff.rfl) (fun c2 => ?_) (fun c2 => ?_)
          · skip
            refine WC.seq ?_
            refine WC.region ?_
            refine WL.val1 (R_move (v := .slice (fs_a) (fs).length (fs_c)) rfl) ?_
            refine WL.val1 (R_move (v := .slice (ns_a) (ns).length (ns_c)) rfl) ?_
            refine WL.val1 (R_move (v := .int .i64 (((i : Nat) : Int))) rfl) ?_
            obtain ⟨z_ns_i, hz_ns_i⟩ : ∃ z, (ns)[i]? = some z := ⟨_, List.getElem?_eq_getElem (by omega)⟩
            obtain ⟨b110, o111, cs115, ha112, hr113, hat114⟩ := (sl_ns.mono (hl6.trans hl11)).2 i z_ns_i hz_ns_i
            subst hr113
            refine WL.val1 (R_indexAddrE (i := ((i : Nat) : Int)) (m := i) ha112 rfl rfl Tryd.underlying24 (Tryd.sizeOf9 _) (by first | rfl | (omega)) (by omega)) ?_
            refine WL.val1 (R_loadC (v := .string (B (z_ns_i))) hS8 rfl hat114 Tryd.isAgg9 rfl) ?_
            refine S_callP (vs := [.slice (fs_a) (fs).length (fs_c), .string (B (z_ns_i))]) hS8 Tryd.call22 rfl (ref02_Get (fs) (fs_a) (fs_c) (z_ns_i) (by first | assumption | omega)) (sl_fs.mono (hl6.trans hl11)) ?_
            intro w117 hS116
            refine WL.val1 (R_move (v := .tuple #[.string (B ((getFS fs z_ns_i).1)), .bool ((getFS fs z_ns_i).2)]) rfl) ?_
            refine WL.val1 (R_extract (vs := ([.string (B ((getFS fs z_ns_i).1)), .bool ((getFS fs z_ns_i).2)] : List Value).toArray) (v := .string (B ((getFS fs z_ns_i).1))) rfl rfl) ?_
            refine WL.val1 (R_extract (vs := ([.string (B ((getFS fs z_ns_i).1)), .bool ((getFS fs z_ns_i).2)] : List Value).toArray) (v := .bool ((getFS fs z_ns_i).2)) rfl rfl) ?_
            refine WL.val1 (R_assign (v := .string (B ((getFS fs z_ns_i).1))) rfl) ?_
            refine WL.val1 (R_assign (v := .bool ((getFS fs z_ns_i).2)) rfl) ?_
            refine WL.nil ?_
            refine then_normal ?_
            refine WC.region ?_
            refine WL.val1 (R_move (v := .slice (acc_a) (acc).length (acc_c)) rfl) ?_
            refine WL.val1 (R_move (v := .slice (ns_a) (ns).length (ns_c)) rfl) ?_
            refine WL.val1 (R_move (v := .int .i64 (((i : Nat) : Int))) rfl) ?_
            refine WL.val1 (R_indexAddrE (i := ((i : Nat) : Int)) (m := i) ha112 rfl rfl Tryd.underlying24 (Tryd.sizeOf9 _) (by first | rfl | (omega)) (by omega)) ?_
            refine WL.val1 (R_loadC (v := .string (B (z_ns_i))) hS116 rfl hat114 Tryd.isAgg9 rfl) ?_
            refine WL.val1 (R_move (v := .bool ((getFS fs z_ns_i).2)) rfl) ?_
            refine WL.val1 (R_move (v := .string (B ((getFS fs z_ns_i).1))) rfl) ?_
            refine WL.val1 (R_build (vs := [(0, .string (B (z_ns_i))), (1, .bool ((getFS fs z_ns_i).2)), (2, .string (B ((getFS fs z_ns_i).1)))]) (v := .agg #[.string (B (z_ns_i)), .bool ((getFS fs z_ns_i).2), .string (B ((getFS fs z_ns_i).1))]) rfl (fun _ => by kernel_rfl)) ?_
            refine S_buildSliceC (R := RSeen2) (m := 1) (vs := [(0, .agg #[.string (B (z_ns_i)), .bool ((getFS fs z_ns_i).2), .string (B ((getFS fs z_ns_i).1))])]) (cells := [.string (B (z_ns_i)), .bool ((getFS fs z_ns_i).2), .string (B ((getFS fs z_ns_i).1))]) (xs := [{ name := z_ns_i, there := (getFS fs z_ns_i).2, text := (getFS fs z_ns_i).1 : Seen }]) hS116 Tryd.underlying28 Tryd.sizeOf57 Tryd.zeroValue57 (by decide) (by decide) rfl (by kernel_rfl) (by exact (⟨[.string (B (z_ns_i)), .bool ((getFS fs z_ns_i).2), .string (B ((getFS fs z_ns_i).1))], _, rfl, rfl, rfl⟩ : Flat RSeen2 _ [{ name := z_ns_i, there := (getFS fs z_ns_i).2, text := (getFS fs z_ns_i).1 : Seen }] _)) rfl ?_
            intro h120 b122 w119 hl121 hs123 hS118
            refine S_append (info := Tryd.t57) (R := RSeen2) (xs := acc) (ys := [{ name := z_ns_i, there := (getFS fs z_ns_i).2, text := (getFS fs z_ns_i).1 : Seen }]) (a := acc_a) (c := acc_c) 0 Tryd.underlying28 (by kernel_rfl) rfl rfl rfl (by decide) 40 rfl hS118 rfl hl121 hs123 rfl rfl (by (try simp only [List.length_append, List.length_cons, List.length_nil]); omega) (by (try simp only [List.length_append, List.length_cons, List.length_nil]); omega) ?_
            intro a124 c125 w126 hS127
            refine WL.val1 (R_assign (v := .slice (a124) ((acc ++ [{ name := z_ns_i, there := (getFS fs z_ns_i).2, text := (getFS fs z_ns_i).1 : Seen }])).length (c125)) rfl) ?_
            refine WL.nil ?_
            refine block_normal ?_
            refine then_normal ?_
            refine WC.region ?_
            refine WL.val1 (R_move (v := .int .i64 (((i : Nat) : Int))) rfl) ?_
            refine WL.val1 (R_add_i (a := ((i : Nat) : Int)) (b := 1) rfl rfl (by omega)) ?_
            refine WL.val1 (R_assign (v := .int .i64 ((((i : Nat) : Int) + 1))) rfl) ?_
            refine WL.nil ?_
            refine then_normal ?_
            exact ⟨(i + 1, (acc ++ [{ name := z_ns_i, there := (getFS fs z_ns_i).2, text := (getFS fs z_ns_i).1 : Seen }]), a124, c125), ⟨rfl, rfl, (by first | rfl | (apply congrArg (Value.int .i64); omega) | simp), (by first | rfl | (apply congrArg (Value.int .i64); omega) | simp), trivial⟩, ⟨h120, ((hl6.trans hl11).trans hl121), hS127, (by (try dsimp only); first | assumption | omega | simp), (by (try dsimp only); obtain ⟨x_, hx_⟩ := some_of_lt (l := ns) (i := i) (by omega); have hji : j = i := (by omega); subst hji; rw [partS_at hx_] at g2; first | (rw [← f2, refLook_in hx_ (of_decide_eq_true (by rw [← g2]; simpa using c2))]; done) | (rw [← f2, refLook_out hx_ (of_decide_eq_false (by rw [← g2]; exact bool_no c2))]; rw [hz_ns_i] at hx_; injection hx_ with hx_; subst hx_; (try simp only [List.append_assoc, List.cons_append, List.nil_append]); rfl)), (by (try dsimp only); first | omega | (simp; omega))⟩, (by first | (simp only []; omega) | (simp; omega))⟩
          · skip
            refine WC.skip ?_
            refine block_normal ?_
            refine then_normal ?_
            refine WC.region ?_
            refine WL.val1 (R_move (v := .int .i64 (((i : Nat) : Int))) rfl) ?_
            refine WL.val1 (R_add_i (a := ((i : Nat) : Int)) (b := 1) rfl rfl (by omega)) ?_
            refine WL.val1 (R_assign (v := .int .i64 ((((i : Nat) : Int) + 1))) rfl) ?_
            refine WL.nil ?_
            refine then_normal ?_
            exact ⟨(i + 1, acc, acc_a, acc_c), ⟨rfl, rfl, (by first | rfl | (apply congrArg (Value.int .i64); omega) | simp), (by first | rfl | (apply congrArg (Value.int .i64); omega) | simp), trivial⟩, ⟨h10, (hl6.trans hl11), hS8, (by (try dsimp only); first | assumption | omega | simp), (by (try dsimp only); obtain ⟨x_, hx_⟩ := some_of_lt (l := ns) (i := i) (by omega); have hji : j = i := (by omega); subst hji; rw [partS_at hx_] at g2; first | (rw [← f2, refLook_in hx_ (of_decide_eq_true (by rw [← g2]; simpa using c2))]; done) | (rw [← f2, refLook_out hx_ (of_decide_eq_false (by rw [← g2]; exact bool_no c2))]; rw [hz_ns_i] at hx_; injection hx_ with hx_; subst hx_; (try simp only [List.append_assoc, List.cons_append, List.nil_append]); rfl)), (by (try dsimp only); first | omega | (simp; omega))⟩, (by first | (simp only []; omega) | (simp; omega))⟩
    · skip
      refine WC.exit ?_
      refine then_exit ?_
      refine then_exit ?_
      refine block_exit ?_
      refine then_normal ?_
      refine WC.seq ?_
      refine WC.region ?_
      refine WL.val1 (R_move (v := .slice (acc_a) (acc).length (acc_c)) rfl) ?_
      refine WL.val1 (R_assign (v := .slice (acc_a) (acc).length (acc_c)) rfl) ?_
      refine WL.nil ?_
      refine then_normal ?_
      refine WC.ret ?_
      refine top_ret (.slice (acc_a) (acc).length (acc_c)) (gives1 rfl rfl) ?_
      obtain ⟨h128, hl129, hs130, hS131⟩ := hS3.growCommit (i := 0) rfl (Hp.le_refl _)
      have e_ : refLookS fs ns = acc := by rw [← f2, drop_nil (by omega)]; simp [refLookF]
      exact ⟨h128, (hl6.trans hl129), ⟨acc_a, acc_c, (by rw [e_]), (by first | exact hs130 | (rw [e_]; exact hs130))⟩, hS131.pop⟩
set_option maxHeartbeats 400000 in
theorem ref20_Fresh (r : Rec) (r_a1 : Option Addr) (r_c1 : Nat) (r_a2 : Option Addr) (r_c2 : Nat) (fs : List File) (fs_a : Option Addr) (fs_c : Nat) (hl : fs.length ≤ 1000000) (hs : r.seens.length ≤ 1000000) (hf : r.files.length ≤ 1000000) : PureC GG Tryd.prog 11 (fun h => Sl RSeen2 h r.seens r_a1 r_c1 ∧ Sl RFile h r.files r_a2 r_c2 ∧ Sl RFile h fs fs_a fs_c) [.agg #[.string (B (r.name)), .slice (r_a1) (r.seens).length (r_c1), .slice (r_a2) (r.files).length (r_c2)], .slice (fs_a) (fs).length (fs_c)] (.bool (refFreshS r fs)) := by
  intro Γ h L w hpre hS
  obtain ⟨sl_r0, sl_r1, sl_fs⟩ := hpre
  refine Ret.body Tryd.func11 rfl Tryd.ntmps11 (Nat.le_of_ble_eq_true rfl) ?_
  refine WC.seq ?_
  refine WC.region ?_
  refine S_box (l := [.string (B (r.name)), .slice (r_a1) (r.seens).length (r_c1), .slice (r_a2) (r.files).length (r_c2)]) (v := .agg #[.string (B (r.name)), .slice (r_a1) (r.seens).length (r_c1), .slice (r_a2) (r.files).length (r_c2)]) hS rfl rfl ?_
  intro w2 hS1
  refine WL.val1 (R_assign (v := .bool (false)) rfl) ?_
  refine WL.nil ?_
  refine then_normal ?_
  refine WC.seq ?_
  refine WC.seq ?_
  refine WC.region ?_
  refine WL.val1 (R_assign (v := .int .i64 (0)) rfl) ?_
  refine WL.nil ?_
  refine then_normal ?_
  refine WC.block ?_
  refine WC.loopL (σ := Nat)
    (fun (q_ : Nat) => (fun (i : Nat) => [(1, .slice (fs_a) (fs).length (fs_c)), (2, .pointer (some ⟨w.heap.size, 0, none⟩)), (5, .int .i64 (((i : Nat) : Int)))]) (q_))
    (fun (q_ : Nat) (w_ : World) => (fun (i : Nat) => ∃ h5 : Hp, h.le h5 ∧ St Γ h5 (row (w.heap.size) [.string (B (r.name)), .slice (r_a1) (r.seens).length (r_c1), .slice (r_a2) (r.files).length (r_c2)] 38 :: L) w_ ∧ (i ≤ r.seens.length) ∧ ((r.seens.drop i).all (fun x => decide (x.there = (getFS fs x.name).2) && decide (x.text = (getFS fs x.name).1)) = r.seens.all (fun x => decide (x.there = (getFS fs x.name).2) && decide (x.text = (getFS fs x.name).1)))) (q_))
    (fun (q_ : Nat) => (fun (i : Nat) => r.seens.length - i) (q_)) (0) ?_ ?_ ?_
  · exact ⟨rfl, rfl, (by first | rfl | (apply congrArg (Value.int .i64); omega) | simp), trivial⟩
  · exact ⟨h, Hp.le_refl _, hS1, (by first | assumption | omega | simp), (by rfl)⟩
  · rintro i r7 w4 ⟨h5, hl6, hS3, f1, f2⟩
    try dsimp only at f1 f2
    refine WC.seq ?_
    refine WC.seq ?_
    refine WC.region ?_
    refine WL.val1 (R_move (v := .int .i64 (((i : Nat) : Int))) rfl) ?_
    refine WL.val1 (R_fieldAddr (b := w.heap.size) (off := 0) (m := 1) rfl (fun _ => by kernel_rfl)) ?_
    refine WL.val1 (R_load (v := .slice (r_a1) (r.seens).length (r_c1)) rfl (hS3.has (i := 0) rfl) (Tryd.isAgg28 _) rfl) ?_
    refine WL.val1 (R_len_slice (n := (r.seens).length) rfl Tryd.underlying28) ?_
    refine WL.val1 (R_lss (a := ((i : Nat) : Int)) (b := (((r.seens).length : Nat) : Int)) rfl rfl) ?_
    refine WL.nil ?_
    refine then_normal ?_
    refine WC.condP (((i : Nat) : Int) < (((r.seens).length : Nat) : Int)) rfl (fun c0 => ?_) (fun c0 => ?_)
    · skip
      refine WC.skip ?_
      refine then_normal ?_
      refine WC.seq ?_
      refine WC.block ?_
      refine WC.seq ?_
      refine WC.region ?_
      refine WL.val1 (R_move (v := .slice (fs_a) (fs).length (fs_c)) rfl) ?_
      refine WL.val1 (R_fieldAddr (b := w.heap.size) (off := 0) (m := 1) rfl (fun _ => by kernel_rfl)) ?_
      refine WL.val1 (R_load (v := .slice (r_a1) (r.seens).length (r_c1)) rfl (hS3.has (i := 0) rfl) (Tryd.isAgg28 _) rfl) ?_
      refine WL.val1 (R_move (v := .int .i64 (((i : Nat) : Int))) rfl) ?_
      obtain ⟨z_r_seens_i, hz_r_seens_i⟩ : ∃ z, (r.seens)[i]? = some z := ⟨_, List.getElem?_eq_getElem (by omega)⟩
      obtain ⟨b8, o9, cs13, ha10, hr11, hat12⟩ := (sl_r0.mono hl6).2 i z_r_seens_i hz_r_seens_i
      subst hr11
      refine WL.val1 (R_indexAddrE (i := ((i : Nat) : Int)) (m := i) ha10 rfl rfl Tryd.underlying28 (Tryd.sizeOf57 _) (by first | rfl | (omega)) (by omega)) ?_
      refine WL.val1 (R_fieldAddr (b := b8) (off := (o9 + i * RSeen2.n)) (m := 0) rfl (fun _ => by kernel_rfl)) ?_
      refine WL.val1 (R_loadC (v := .string (B (z_r_seens_i.name))) hS3 rfl (hat12.sub 0 1 (cs' := [.string (B (z_r_seens_i.name))]) rfl) Tryd.isAgg9 rfl) ?_
      refine S_callP (vs := [.slice (fs_a) (fs).length (fs_c), .string (B (z_r_seens_i.name))]) hS3 Tryd.call22 rfl (ref02_Get (fs) (fs_a) (fs_c) (z_r_seens_i.name) (by first | assumption | omega)) (sl_fs.mono hl6) ?_
      intro w15 hS14
      refine WL.val1 (R_move (v := .tuple #[.string (B ((getFS fs z_r_seens_i.name).1)), .bool ((getFS fs z_r_seens_i.name).2)]) rfl) ?_
      refine WL.val1 (R_extract (vs := ([.string (B ((getFS fs z_r_seens_i.name).1)), .bool ((getFS fs z_r_seens_i.name).2)] : List Value).toArray) (v := .string (B ((getFS fs z_r_seens_i.name).1))) rfl rfl) ?_
      refine WL.val1 (R_extract (vs := ([.string (B ((getFS fs z_r_seens_i.name).1)), .bool ((getFS fs z_r_seens_i.name).2)] : List Value).toArray) (v := .bool ((getFS fs z_r_seens_i.name).2)) rfl rfl) ?_
      refine WL.val1 (R_assign (v := .string (B ((getFS fs z_r_seens_i.name).1))) rfl) ?_
      refine WL.val1 (R_assign (v := .bool ((getFS fs z_r_seens_i.name).2)) rfl) ?_
      refine WL.nil ?_
      refine then_normal ?_
      refine WC.seq ?_
      refine WC.region ?_
      refine WL.val1 (R_fieldAddr (b := w.heap.size) (off := 0) (m := 1) rfl (fun _ => by kernel_rfl)) ?_
      refine WL.val1 (R_load (v := .slice (r_a1) (r.seens).length (r_c1)) rfl (hS14.has (i := 0) rfl) (Tryd.isAgg28 _) rfl) ?_
      refine WL.val1 (R_move (v := .int .i64 (((i : Nat) : Int))) rfl) ?_
      refine WL.val1 (R_indexAddrE (i := ((i : Nat) : Int)) (m := i) ha10 rfl rfl Tryd.underlying28 (Tryd.sizeOf57 _) (by first | rfl | (omega)) (by omega)) ?_
      refine WL.val1 (R_fieldAddr (b := b8) (off := (o9 + i * RSeen2.n)) (m := 1) rfl (fun _ => by kernel_rfl)) ?_
      refine WL.val1 (R_loadC (v := .bool (z_r_seens_i.there)) hS14 rfl (hat12.sub 1 1 (cs' := [.bool (z_r_seens_i.there)]) rfl) Tryd.isAgg4 rfl) ?_
      refine WL.val1 (R_move (v := .bool ((getFS fs z_r_seens_i.name).2)) rfl) ?_
      refine WL.val1 (R_bneq (a := z_r_seens_i.there) (b := (getFS fs z_r_seens_i.name).2) rfl rfl Tryd.underlying4) ?_
      refine WL.val1 (R_move (v := .bool ((!((z_r_seens_i.there == (getFS fs z_r_seens_i.name).2))))) rfl) ?_
      refine WL.gpure (gd := (!((!((z_r_seens_i.there == (getFS fs z_r_seens_i.name).2)))))) (yl_f (d := 37) rfl rfl) (fun hg => R_fieldAddr (b := w.heap.size) (off := 0) (m := 1) rfl (fun _ => by kernel_rfl)) ?_
      refine WL.gpure (gd := (!((!((z_r_seens_i.there == (getFS fs z_r_seens_i.name).2)))))) (yl_f (d := 37) rfl rfl) (fun hg => R_load (v := .slice (r_a1) (r.seens).length (r_c1)) (gvT hg rfl) (hS14.has (i := 0) rfl) (Tryd.isAgg28 _) rfl) ?_
      refine WL.gpure (gd := (!((!((z_r_seens_i.there == (getFS fs z_r_seens_i.name).2)))))) (yl_f (d := 37) rfl rfl) (fun hg => R_move (v := .int .i64 (((i : Nat) : Int))) rfl) ?_
      refine WL.gpure (gd := (!((!((z_r_seens_i.there == (getFS fs z_r_seens_i.name).2)))))) (yl_f (d := 37) rfl rfl) (fun hg => R_indexAddrE (i := ((i : Nat) : Int)) (m := i) ha10 (gvT hg rfl) (gvT hg rfl) Tryd.underlying28 (Tryd.sizeOf57 _) (by first | rfl | (have hg_ := ((b_not (b_not Iff.rfl))).1 hg; omega)) (by have hg_ := ((b_not (b_not Iff.rfl))).1 hg; omega)) ?_
      refine WL.gpure (gd := (!((!((z_r_seens_i.there == (getFS fs z_r_seens_i.name).2)))))) (yl_f (d := 37) rfl rfl) (fun hg => R_fieldAddr (b := b8) (off := (o9 + i * RSeen2.n)) (m := 2) (gvT hg rfl) (fun _ => by kernel_rfl)) ?_
      refine WL.gpure (gd := (!((!((z_r_seens_i.there == (getFS fs z_r_seens_i.name).2)))))) (yl_f (d := 37) rfl rfl) (fun hg => R_loadC (v := .string (B (z_r_seens_i.text))) hS14 (gvT hg rfl) (hat12.sub 2 1 (cs' := [.string (B (z_r_seens_i.text))]) rfl) Tryd.isAgg9 rfl) ?_
      refine WL.gpure (gd := (!((!((z_r_seens_i.there == (getFS fs z_r_seens_i.name).2)))))) (yl_f (d := 37) rfl rfl) (fun hg => R_move (v := .string (B ((getFS fs z_r_seens_i.name).1))) rfl) ?_
      refine WL.gpure (gd := (!((!((z_r_seens_i.there == (getFS fs z_r_seens_i.name).2)))))) (yl_f (d := 37) rfl rfl) (fun hg => R_sneq (a := z_r_seens_i.text) (b := (getFS fs z_r_seens_i.name).1) (gvT hg rfl) (gvT hg rfl)) ?_
      refine WL.val1 (R_or (cb := (!((z_r_seens_i.there == (getFS fs z_r_seens_i.name).2)))) (yb := decide (z_r_seens_i.text ≠ (getFS fs z_r_seens_i.name).1)) rfl rfl rfl) ?_
      refine WL.nil ?_
      refine then_normal ?_
      refine WC.condI ((¬ (((z_r_seens_i.there == (getFS fs z_r_seens_i.name).2)) = true) ∨ z_r_seens_i.text ≠ (getFS fs z_r_seens_i.name).1)) (b := ((!((z_r_seens_i.there == (getFS fs z_r_seens_i.name).2))) || decide (z_r_seens_i.text ≠ (getFS fs z_r_seens_i.name).1))) rfl (b_or (b_not Iff.rfl) b_dec) (fun c1 => ?_) (fun c1 => ?_)
      · skip
        refine WC.seq ?_
        refine WC.region ?_
        refine WL.val1 (R_assign (v := .bool (false)) rfl) ?_
        refine WL.nil ?_
        refine then_normal ?_
        refine WC.ret ?_
        refine block_ret ?_
        refine then_ret ?_
        refine then_ret ?_
        refine block_ret ?_
        refine then_ret ?_
        refine top_ret (.bool (false)) (gives1 rfl rfl) ?_
        exact ⟨(by apply congrArg Value.bool; rw [refFreshS, ← f2, all_step hz_r_seens_i]; rcases c1 with c1 | c1; (rw [decide_eq_false (fun h => c1 (beq_iff_eq.2 h))]; rfl); (rw [decide_eq_false c1, Bool.and_false]; rfl)), (hS14.pop.weaken_h hl6)⟩
      · skip
        refine WC.skip ?_
        refine block_normal ?_
        refine then_normal ?_
        refine WC.region ?_
        refine WL.val1 (R_move (v := .int .i64 (((i : Nat) : Int))) rfl) ?_
        refine WL.val1 (R_add_i (a := ((i : Nat) : Int)) (b := 1) rfl rfl (by omega)) ?_
        refine WL.val1 (R_assign (v := .int .i64 ((((i : Nat) : Int) + 1))) rfl) ?_
        refine WL.nil ?_
        refine then_normal ?_
        exact ⟨(i + 1), ⟨rfl, rfl, (by first | rfl | (apply congrArg (Value.int .i64); omega) | simp), trivial⟩, ⟨h5, hl6, hS14, (by (try dsimp only); first | assumption | omega | simp), (by (try dsimp only); rw [← f2, all_step hz_r_seens_i]; have c5 := not_or.1 c1; rw [decide_eq_true (beq_iff_eq.1 (Decidable.not_not.1 c5.1)), decide_eq_true (Decidable.not_not.1 c5.2)]; rfl)⟩, (by first | (simp only []; omega) | (simp; omega))⟩
    · skip
      refine WC.exit ?_
      refine then_exit ?_
      refine then_exit ?_
      refine block_exit ?_
      refine then_normal ?_
      refine WC.seq ?_
      refine WC.seq ?_
      have f3 : r.seens.all (fun x => decide (x.there = (getFS fs x.name).2) && decide (x.text = (getFS fs x.name).1)) = true := by rw [← f2, all_end (by omega)]
      refine WC.region ?_
      refine WL.val1 (R_assign (v := .int .i64 (0)) rfl) ?_
      refine WL.nil ?_
      refine then_normal ?_
      refine WC.block ?_
      refine WC.loopL (σ := Nat)
        (fun (q_ : Nat) => (fun (j : Nat) => [(1, .slice (fs_a) (fs).length (fs_c)), (2, .pointer (some ⟨w.heap.size, 0, none⟩)), (8, .int .i64 (((j : Nat) : Int)))]) (q_))
        (fun (q_ : Nat) (w_ : World) => (fun (j : Nat) => ∃ h18 : Hp, h5.le h18 ∧ St Γ h18 (row (w.heap.size) [.string (B (r.name)), .slice (r_a1) (r.seens).length (r_c1), .slice (r_a2) (r.files).length (r_c2)] 38 :: L) w_ ∧ (j ≤ r.files.length) ∧ ((r.files.drop j).all (fun f => (getFS fs f.name).2 && decide ((getFS fs f.name).1 = f.text)) = r.files.all (fun f => (getFS fs f.name).2 && decide ((getFS fs f.name).1 = f.text)))) (q_))
        (fun (q_ : Nat) => (fun (j : Nat) => r.files.length - j) (q_)) (0) ?_ ?_ ?_
      · exact ⟨rfl, rfl, (by first | rfl | (apply congrArg (Value.int .i64); omega) | simp), trivial⟩
      · exact ⟨h5, Hp.le_refl _, hS3, (by first | assumption | omega | simp), (by rfl)⟩
      · rintro j r20 w17 ⟨h18, hl19, hS16, g1, g2⟩
        try dsimp only at g1 g2
        refine WC.seq ?_
        refine WC.seq ?_
        refine WC.region ?_
        refine WL.val1 (R_move (v := .int .i64 (((j : Nat) : Int))) rfl) ?_
        refine WL.val1 (R_fieldAddr (b := w.heap.size) (off := 0) (m := 2) rfl (fun _ => by kernel_rfl)) ?_
        refine WL.val1 (R_load (v := .slice (r_a2) (r.files).length (r_c2)) rfl (hS16.has (i := 0) rfl) (Tryd.isAgg23 _) rfl) ?_
        refine WL.val1 (R_len_slice (n := (r.files).length) rfl Tryd.underlying23) ?_
        refine WL.val1 (R_lss (a := ((j : Nat) : Int)) (b := (((r.files).length : Nat) : Int)) rfl rfl) ?_
        refine WL.nil ?_
        refine then_normal ?_
        refine WC.condP (((j : Nat) : Int) < (((r.files).length : Nat) : Int)) rfl (fun c2 => ?_) (fun c2 => ?_)
        · skip
          refine WC.skip ?_
          refine then_normal ?_
          refine WC.seq ?_
          refine WC.block ?_
          refine WC.seq ?_
          refine WC.region ?_
          refine WL.val1 (R_move (v := .slice (fs_a) (fs).length (fs_c)) rfl) ?_
          refine WL.val1 (R_fieldAddr (b := w.heap.size) (off := 0) (m := 2) rfl (fun _ => by kernel_rfl)) ?_
          refine WL.val1 (R_load (v := .slice (r_a2) (r.files).length (r_c2)) rfl (hS16.has (i := 0) rfl) (Tryd.isAgg23 _) rfl) ?_
          refine WL.val1 (R_move (v := .int .i64 (((j : Nat) : Int))) rfl) ?_
          obtain ⟨z_r_files_j, hz_r_files_j⟩ : ∃ z, (r.files)[j]? = some z := ⟨_, List.getElem?_eq_getElem (by omega)⟩
          obtain ⟨b21, o22, cs26, ha23, hr24, hat25⟩ := (sl_r1.mono (hl6.trans hl19)).2 j z_r_files_j hz_r_files_j
          subst hr24
          refine WL.val1 (R_indexAddrE (i := ((j : Nat) : Int)) (m := j) ha23 rfl rfl Tryd.underlying23 (Tryd.sizeOf53 _) (by first | rfl | (omega)) (by omega)) ?_
          refine WL.val1 (R_fieldAddr (b := b21) (off := (o22 + j * RFile.n)) (m := 0) rfl (fun _ => by kernel_rfl)) ?_
          refine WL.val1 (R_loadC (v := .string (B (z_r_files_j.name))) hS16 rfl (hat25.sub 0 1 (cs' := [.string (B (z_r_files_j.name))]) rfl) Tryd.isAgg9 rfl) ?_
          refine S_callP (vs := [.slice (fs_a) (fs).length (fs_c), .string (B (z_r_files_j.name))]) hS16 Tryd.call22 rfl (ref02_Get (fs) (fs_a) (fs_c) (z_r_files_j.name) (by first | assumption | omega)) (sl_fs.mono (hl6.trans hl19)) ?_
          intro w28 hS27
          refine WL.val1 (R_move (v := .tuple #[.string (B ((getFS fs z_r_files_j.name).1)), .bool ((getFS fs z_r_files_j.name).2)]) rfl) ?_
          refine WL.val1 (R_extract (vs := ([.string (B ((getFS fs z_r_files_j.name).1)), .bool ((getFS fs z_r_files_j.name).2)] : List Value).toArray) (v := .string (B ((getFS fs z_r_files_j.name).1))) rfl rfl) ?_
          refine WL.val1 (R_extract (vs := ([.string (B ((getFS fs z_r_files_j.name).1)), .bool ((getFS fs z_r_files_j.name).2)] : List Value).toArray) (v := .bool ((getFS fs z_r_files_j.name).2)) rfl rfl) ?_
          refine WL.val1 (R_assign (v := .string (B ((getFS fs z_r_files_j.name).1))) rfl) ?_
          refine WL.val1 (R_assign (v := .bool ((getFS fs z_r_files_j.name).2)) rfl) ?_
          refine WL.nil ?_
          refine then_normal ?_
          refine WC.seq ?_
          refine WC.region ?_
          refine WL.val1 (R_move (v := .bool ((getFS fs z_r_files_j.name).2)) rfl) ?_
          refine WL.val1 (R_not (b := (getFS fs z_r_files_j.name).2) rfl) ?_
          refine WL.val1 (R_move (v := .bool ((!((getFS fs z_r_files_j.name).2)))) rfl) ?_
          refine WL.gpure (gd := (!((!((getFS fs z_r_files_j.name).2))))) (yl_f (d := 67) rfl rfl) (fun hg => R_move (v := .string (B ((getFS fs z_r_files_j.name).1))) rfl) ?_
          refine WL.gpure (gd := (!((!((getFS fs z_r_files_j.name).2))))) (yl_f (d := 67) rfl rfl) (fun hg => R_fieldAddr (b := w.heap.size) (off := 0) (m := 2) rfl (fun _ => by kernel_rfl)) ?_
          refine WL.gpure (gd := (!((!((getFS fs z_r_files_j.name).2))))) (yl_f (d := 67) rfl rfl) (fun hg => R_load (v := .slice (r_a2) (r.files).length (r_c2)) (gvT hg rfl) (hS27.has (i := 0) rfl) (Tryd.isAgg23 _) rfl) ?_
          refine WL.gpure (gd := (!((!((getFS fs z_r_files_j.name).2))))) (yl_f (d := 67) rfl rfl) (fun hg => R_move (v := .int .i64 (((j : Nat) : Int))) rfl) ?_
          refine WL.gpure (gd := (!((!((getFS fs z_r_files_j.name).2))))) (yl_f (d := 67) rfl rfl) (fun hg => R_indexAddrE (i := ((j : Nat) : Int)) (m := j) ha23 (gvT hg rfl) (gvT hg rfl) Tryd.underlying23 (Tryd.sizeOf53 _) (by first | rfl | (have hg_ := ((b_not (b_not Iff.rfl))).1 hg; omega)) (by have hg_ := ((b_not (b_not Iff.rfl))).1 hg; omega)) ?_
          refine WL.gpure (gd := (!((!((getFS fs z_r_files_j.name).2))))) (yl_f (d := 67) rfl rfl) (fun hg => R_fieldAddr (b := b21) (off := (o22 + j * RFile.n)) (m := 1) (gvT hg rfl) (fun _ => by kernel_rfl)) ?_
          refine WL.gpure (gd := (!((!((getFS fs z_r_files_j.name).2))))) (yl_f (d := 67) rfl rfl) (fun hg => R_loadC (v := .string (B (z_r_files_j.text))) hS27 (gvT hg rfl) (hat25.sub 1 1 (cs' := [.string (B (z_r_files_j.text))]) rfl) Tryd.isAgg9 rfl) ?_
          refine WL.gpure (gd := (!((!((getFS fs z_r_files_j.name).2))))) (yl_f (d := 67) rfl rfl) (fun hg => R_sneq (a := (getFS fs z_r_files_j.name).1) (b := z_r_files_j.text) (gvT hg rfl) (gvT hg rfl)) ?_
          refine WL.val1 (R_or (cb := (!((getFS fs z_r_files_j.name).2))) (yb := decide ((getFS fs z_r_files_j.name).1 ≠ z_r_files_j.text)) rfl rfl rfl) ?_
          refine WL.nil ?_
          refine then_normal ?_
          refine WC.condI ((¬ (((getFS fs z_r_files_j.name).2) = true) ∨ (getFS fs z_r_files_j.name).1 ≠ z_r_files_j.text)) (b := ((!((getFS fs z_r_files_j.name).2)) || decide ((getFS fs z_r_files_j.name).1 ≠ z_r_files_j.text))) rfl (b_or (b_not Iff.rfl) b_dec) (fun c3 => ?_) (fun c3 => ?_)
          · skip
            refine WC.seq ?_
            refine WC.region ?_
            refine WL.val1 (R_assign (v := .bool (false)) rfl) ?_
            refine WL.nil ?_
            refine then_normal ?_
            refine WC.ret ?_
            refine block_ret ?_
            refine then_ret ?_
            refine then_ret ?_
            refine block_ret ?_
            refine then_ret ?_
            refine top_ret (.bool (false)) (gives1 rfl rfl) ?_
            exact ⟨(by apply congrArg Value.bool; rw [refFreshS, ← g2, all_step hz_r_files_j]; rcases c3 with c3 | c3; (rw [bool_no c3]; simp); (rw [decide_eq_false c3]; simp)), (hS27.pop.weaken_h (hl6.trans hl19))⟩
          · skip
            refine WC.skip ?_
            refine block_normal ?_
            refine then_normal ?_
            refine WC.region ?_
            refine WL.val1 (R_move (v := .int .i64 (((j : Nat) : Int))) rfl) ?_
            refine WL.val1 (R_add_i (a := ((j : Nat) : Int)) (b := 1) rfl rfl (by omega)) ?_
            refine WL.val1 (R_assign (v := .int .i64 ((((j : Nat) : Int) + 1))) rfl) ?_
            refine WL.nil ?_
            refine then_normal ?_
            exact ⟨(j + 1), ⟨rfl, rfl, (by first | rfl | (apply congrArg (Value.int .i64); omega) | simp), trivial⟩, ⟨h18, hl19, hS27, (by (try dsimp only); first | assumption | omega | simp), (by (try dsimp only); rw [← g2, all_step hz_r_files_j]; have c4 := not_or.1 c3; rw [Decidable.not_not.1 c4.1, decide_eq_true (Decidable.not_not.1 c4.2)]; rfl)⟩, (by first | (simp only []; omega) | (simp; omega))⟩
        · skip
          refine WC.exit ?_
          refine then_exit ?_
          refine then_exit ?_
          refine block_exit ?_
          refine then_normal ?_
          refine WC.seq ?_
          refine WC.region ?_
          refine WL.val1 (R_assign (v := .bool (true)) rfl) ?_
          refine WL.nil ?_
          refine then_normal ?_
          refine WC.ret ?_
          refine top_ret (.bool (true)) (gives1 rfl rfl) ?_
          exact ⟨(by apply congrArg Value.bool; rw [refFreshS, f3, ← g2, all_end (by omega)]; rfl), (hS16.pop.weaken_h (hl6.trans hl19))⟩
set_option maxHeartbeats 400000 in
theorem ref20_Put (l : List Rec) (l_a : Option Addr) (l_c : Nat) (r : Rec) (r_a1 : Option Addr) (r_c1 : Nat) (r_a2 : Option Addr) (r_c2 : Nat) (hl : l.length ≤ 1000000) : FnC GG Tryd.prog 15 (fun h => Sl RRec2 h l l_a l_c ∧ Sl RSeen2 h r.seens r_a1 r_c1 ∧ Sl RFile h r.files r_a2 r_c2) [.slice (l_a) (l).length (l_c), .agg #[.string (B (r.name)), .slice (r_a1) (r.seens).length (r_c1), .slice (r_a2) (r.files).length (r_c2)]] (fun h v => ∃ (a : Option Addr) (c : Nat), v = .slice (a) ((refPutF r false l)).length (c) ∧ (Sl RRec2 h (refPutF r false l) a c)) := by
  intro Γ h L w hpre hS
  obtain ⟨sl_l, sl_r0, sl_r1⟩ := hpre
  refine Ret.body Tryd.func15 rfl Tryd.ntmps15 (Nat.le_of_ble_eq_true rfl) ?_
  refine WC.seq ?_
  refine WC.region ?_
  refine S_box (l := [.string (B (r.name)), .slice (r_a1) (r.seens).length (r_c1), .slice (r_a2) (r.files).length (r_c2)]) (v := .agg #[.string (B (r.name)), .slice (r_a1) (r.seens).length (r_c1), .slice (r_a2) (r.files).length (r_c2)]) hS rfl rfl ?_
  intro w2 hS1
  refine WL.val1 (R_assign (v := .slice none 0 0) rfl) ?_
  refine WL.nil ?_
  refine then_normal ?_
  refine WC.seq ?_
  refine WC.region ?_
  refine S_buildSlice0 (R := RRec2) (e := 38) hS1 Tryd.underlying39 (Tryd.sizeOf38) ?_
  intro w4 hS3
  refine WL.val1 (R_assign (v := .slice (some ⟨w2.heap.size, 0, none⟩) 0 (0)) rfl) ?_
  refine WL.val1 (R_assign (v := .bool (false)) rfl) ?_
  refine WL.nil ?_
  refine then_normal ?_
  refine WC.seq ?_
  refine WC.seq ?_
  refine WC.region ?_
  refine WL.val1 (R_assign (v := .int .i64 (0)) rfl) ?_
  refine WL.nil ?_
  refine then_normal ?_
  refine WC.block ?_
  refine WC.loopL (σ := Nat × Bool × (List Rec) × (Option Addr) × Nat)
    (fun (q_ : Nat × Bool × (List Rec) × (Option Addr) × Nat) => (fun (i : Nat) (b : Bool) (acc : List Rec) (acc_a : Option Addr) (acc_c : Nat) => [(0, .slice (l_a) (l).length (l_c)), (3, .pointer (some ⟨w.heap.size, 0, none⟩)), (5, .slice (acc_a) (acc).length (acc_c)), (6, .bool (b)), (7, .int .i64 (((i : Nat) : Int)))]) (q_.1) (q_.2.1) (q_.2.2.1) (q_.2.2.2.1) (q_.2.2.2.2))
    (fun (q_ : Nat × Bool × (List Rec) × (Option Addr) × Nat) (w_ : World) => (fun (i : Nat) (b : Bool) (acc : List Rec) (acc_a : Option Addr) (acc_c : Nat) => ∃ h7 : Hp, h.le h7 ∧ St Γ h7 (grow 38 RRec2 h7 (acc) (acc_a) (acc_c) :: row (w.heap.size) [.string (B (r.name)), .slice (r_a1) (r.seens).length (r_c1), .slice (r_a2) (r.files).length (r_c2)] 38 :: L) w_ ∧ (i ≤ l.length) ∧ (acc ++ refPutF r b (l.drop i) = refPutF r false l) ∧ (acc.length ≤ i)) (q_.1) (q_.2.1) (q_.2.2.1) (q_.2.2.2.1) (q_.2.2.2.2))
    (fun (q_ : Nat × Bool × (List Rec) × (Option Addr) × Nat) => (fun (i : Nat) (b : Bool) (acc : List Rec) (acc_a : Option Addr) (acc_c : Nat) => l.length - i) (q_.1) (q_.2.1) (q_.2.2.1) (q_.2.2.2.1) (q_.2.2.2.2)) (0, false, ([] : List Rec), some ⟨w2.heap.size, 0, none⟩, 0) ?_ ?_ ?_
  · exact ⟨rfl, rfl, (by first | rfl | (apply congrArg (Value.int .i64); omega) | simp), (by first | rfl | (apply congrArg (Value.int .i64); omega) | simp), (by first | rfl | (apply congrArg (Value.int .i64); omega) | simp), trivial⟩
  · exact ⟨h, Hp.le_refl _, hS3, (by first | assumption | omega | simp), (by rfl), (by first | assumption | omega | simp)⟩
  · rintro ⟨i, b, acc, acc_a, acc_c⟩ r9 w6 ⟨h7, hl8, hS5, f1, f2, f3⟩
    try dsimp only at f1 f2 f3
    refine WC.seq ?_
    refine WC.seq ?_
    refine WC.region ?_
    refine WL.val1 (R_move (v := .int .i64 (((i : Nat) : Int))) rfl) ?_
    refine WL.val1 (R_move (v := .slice (l_a) (l).length (l_c)) rfl) ?_
    refine WL.val1 (R_len_slice (n := (l).length) rfl Tryd.underlying39) ?_
    refine WL.val1 (R_lss (a := ((i : Nat) : Int)) (b := (((l).length : Nat) : Int)) rfl rfl) ?_
    refine WL.nil ?_
    refine then_normal ?_
    refine WC.condP (((i : Nat) : Int) < (((l).length : Nat) : Int)) rfl (fun c0 => ?_) (fun c0 => ?_)
    · skip
      refine WC.skip ?_
      refine then_normal ?_
      refine WC.seq ?_
      refine WC.block ?_
      refine WC.seq ?_
      obtain ⟨z_l_i, hz_l_i⟩ : ∃ z, (l)[i]? = some z := ⟨_, List.getElem?_eq_getElem (by omega)⟩
      obtain ⟨b34, o35, cs39, ha36, hr37, hat38⟩ := (sl_l.mono hl8).2 i z_l_i hz_l_i
      obtain ⟨a40, c41, a42, c43, rfl, hs44, hs45⟩ := hr37
      refine WC.draw 10 [(0, .slice (l_a) (l).length (l_c)), (3, .pointer (some ⟨w.heap.size, 0, none⟩)), (5, .slice (acc_a) (acc).length (acc_c)), (6, .bool (b)), (7, .int .i64 (((i : Nat) : Int)))] [fun _ v => v = .bool (b), fun _ v => v = .bool ((!(b))), fun _ v => v = .bool ((!(b))), fun _ v => v = gv ((!(b))) (.slice (l_a) (l).length (l_c)), fun _ v => v = gv ((!(b))) (.int .i64 (((i : Nat) : Int))), fun _ v => v = gv ((!(b))) (.pointer (some ⟨b34, (o35 + i * RRec2.n), none⟩)), fun _ v => v = gv ((!(b))) (.pointer (some ⟨b34, (o35 + i * RRec2.n), none⟩)), fun _ v => v = gv ((!(b))) (.string (B (z_l_i.name))), fun _ v => v = gv ((!(b))) (.pointer (some ⟨w.heap.size, 0, none⟩)), fun _ v => v = gv ((!(b))) (.string (B (r.name)))] hS5 (by kernel_rfl) (by kernel_rfl) (MonoFs.pure (MonoFs.pure (MonoFs.pure (MonoFs.pure (MonoFs.pure (MonoFs.pure (MonoFs.pure (MonoFs.pure (MonoFs.pure (MonoFs.pure MonoFs.nil)))))))))) ⟨rfl, rfl, rfl, rfl, rfl, trivial⟩ ⟨?_, ?_, ?_, ?_, ?_, ?_, ?_, ?_, ?_, ?_, trivial⟩ ?_
      · intro r_ w63 h64 hl65 hS62 hb_ hp_
        obtain ⟨b0_, b1_, b2_, b3_, b4_, _⟩ := hb_
        refine WL.val1 (R_move (v := .bool (b)) b3_) ?_
        refine WL.nil ?_
        exact ⟨rfl, _, _, rfl, (Hp.le_refl _), rfl, hS62⟩
      · intro r_ w67 h68 hl69 hS66 hb_ hp_
        obtain ⟨b0_, b1_, b2_, b3_, b4_, _⟩ := hb_
        obtain ⟨p0_, _⟩ := hp_
        have p0_ : r_ 15 = .bool (b) := p0_
        refine WL.val1 (R_not (b := b) p0_) ?_
        refine WL.nil ?_
        exact ⟨rfl, _, _, rfl, (Hp.le_refl _), rfl, hS66⟩
      · intro r_ w71 h72 hl73 hS70 hb_ hp_
        obtain ⟨b0_, b1_, b2_, b3_, b4_, _⟩ := hb_
        obtain ⟨p0_, _⟩ := hp_
        have p0_ : r_ 16 = .bool ((!(b))) := p0_
        refine WL.val1 (R_move (v := .bool ((!(b)))) p0_) ?_
        refine WL.nil ?_
        exact ⟨rfl, _, _, rfl, (Hp.le_refl _), rfl, hS70⟩
      · intro r_ w75 h76 hl77 hS74 hb_ hp_
        obtain ⟨b0_, b1_, b2_, b3_, b4_, _⟩ := hb_
        obtain ⟨p0_, _⟩ := hp_
        have p0_ : r_ 17 = .bool ((!(b))) := p0_
        refine WL.gpure (gd := (!(b))) (yl_t (d := 17) rfl p0_) (fun hg => R_move (v := .slice (l_a) (l).length (l_c)) b0_) ?_
        refine WL.nil ?_
        exact ⟨rfl, _, _, rfl, (Hp.le_refl _), rfl, hS74⟩
      · intro r_ w79 h80 hl81 hS78 hb_ hp_
        obtain ⟨b0_, b1_, b2_, b3_, b4_, _⟩ := hb_
        obtain ⟨p0_, _⟩ := hp_
        have p0_ : r_ 17 = .bool ((!(b))) := p0_
        refine WL.gpure (gd := (!(b))) (yl_t (d := 17) rfl p0_) (fun hg => R_move (v := .int .i64 (((i : Nat) : Int))) b4_) ?_
        refine WL.nil ?_
        exact ⟨rfl, _, _, rfl, (Hp.le_refl _), rfl, hS78⟩
      · intro r_ w83 h84 hl85 hS82 hb_ hp_
        obtain ⟨b0_, b1_, b2_, b3_, b4_, _⟩ := hb_
        obtain ⟨p0_, p1_, p2_, _⟩ := hp_
        have p0_ : r_ 18 = gv ((!(b))) (.slice (l_a) (l).length (l_c)) := p0_
        have p1_ : r_ 19 = gv ((!(b))) (.int .i64 (((i : Nat) : Int))) := p1_
        have p2_ : r_ 17 = .bool ((!(b))) := p2_
        refine WL.gpure (gd := (!(b))) (yl_t (d := 17) rfl p2_) (fun hg => R_indexAddrE (i := ((i : Nat) : Int)) (m := i) ha36 (gvT hg p0_) (gvT hg p1_) Tryd.underlying39 (Tryd.sizeOf38 _) (by first | rfl | (have hg_ := ((b_not Iff.rfl)).1 hg; omega)) (by have hg_ := ((b_not Iff.rfl)).1 hg; omega)) ?_
        refine WL.nil ?_
        exact ⟨rfl, _, _, rfl, (Hp.le_refl _), rfl, hS82⟩
      · intro r_ w87 h88 hl89 hS86 hb_ hp_
        obtain ⟨b0_, b1_, b2_, b3_, b4_, _⟩ := hb_
        obtain ⟨p0_, p1_, _⟩ := hp_
        have p0_ : r_ 20 = gv ((!(b))) (.pointer (some ⟨b34, (o35 + i * RRec2.n), none⟩)) := p0_
        have p1_ : r_ 17 = .bool ((!(b))) := p1_
        refine WL.gpure (gd := (!(b))) (yl_t (d := 17) rfl p1_) (fun hg => R_fieldAddr (b := b34) (off := (o35 + i * RRec2.n)) (m := 0) (gvT hg p0_) (fun _ => by kernel_rfl)) ?_
        refine WL.nil ?_
        exact ⟨rfl, _, _, rfl, (Hp.le_refl _), rfl, hS86⟩
      · intro r_ w91 h92 hl93 hS90 hb_ hp_
        obtain ⟨b0_, b1_, b2_, b3_, b4_, _⟩ := hb_
        obtain ⟨p0_, p1_, _⟩ := hp_
        have p0_ : r_ 21 = gv ((!(b))) (.pointer (some ⟨b34, (o35 + i * RRec2.n), none⟩)) := p0_
        have p1_ : r_ 17 = .bool ((!(b))) := p1_
        refine WL.gpure (gd := (!(b))) (yl_t (d := 17) rfl p1_) (fun hg => R_loadC (v := .string (B (z_l_i.name))) hS90 (gvT hg p0_) ((hat38.mono hl93).sub 0 1 (cs' := [.string (B (z_l_i.name))]) rfl) Tryd.isAgg9 rfl) ?_
        refine WL.nil ?_
        exact ⟨rfl, _, _, rfl, (Hp.le_refl _), rfl, hS90⟩
      · intro r_ w95 h96 hl97 hS94 hb_ hp_
        obtain ⟨b0_, b1_, b2_, b3_, b4_, _⟩ := hb_
        obtain ⟨p0_, _⟩ := hp_
        have p0_ : r_ 17 = .bool ((!(b))) := p0_
        refine WL.gpure (gd := (!(b))) (yl_t (d := 17) rfl p0_) (fun hg => R_fieldAddr (b := w.heap.size) (off := 0) (m := 0) b1_ (fun _ => by kernel_rfl)) ?_
        refine WL.nil ?_
        exact ⟨rfl, _, _, rfl, (Hp.le_refl _), rfl, hS94⟩
      · intro r_ w99 h100 hl101 hS98 hb_ hp_
        obtain ⟨b0_, b1_, b2_, b3_, b4_, _⟩ := hb_
        obtain ⟨p0_, p1_, _⟩ := hp_
        have p0_ : r_ 23 = gv ((!(b))) (.pointer (some ⟨w.heap.size, 0, none⟩)) := p0_
        have p1_ : r_ 17 = .bool ((!(b))) := p1_
        refine WL.gpure (gd := (!(b))) (yl_t (d := 17) rfl p1_) (fun hg => R_load (v := .string (B (r.name))) (gvT hg p0_) (hS98.has (i := 1) rfl) (Tryd.isAgg9 _) rfl) ?_
        refine WL.nil ?_
        exact ⟨rfl, _, _, rfl, (Hp.le_refl _), rfl, hS98⟩
      · intro r_ w103 h104 hl105 hS102 hb_ hf_
        obtain ⟨b0_, b1_, b2_, b3_, b4_, _⟩ := hb_
        obtain ⟨q0_, q1_, q2_, q3_, q4_, q5_, q6_, q7_, q8_, q9_, _⟩ := hf_
        refine WL.frame [(0, .slice (l_a) (l).length (l_c)), (3, .pointer (some ⟨w.heap.size, 0, none⟩)), (5, .slice (acc_a) (acc).length (acc_c)), (6, .bool (b)), (7, .int .i64 (((i : Nat) : Int))), (15, .bool (b)), (16, .bool ((!(b)))), (17, .bool ((!(b)))), (18, gv ((!(b))) (.slice (l_a) (l).length (l_c))), (19, gv ((!(b))) (.int .i64 (((i : Nat) : Int)))), (20, gv ((!(b))) (.pointer (some ⟨b34, (o35 + i * RRec2.n), none⟩))), (21, gv ((!(b))) (.pointer (some ⟨b34, (o35 + i * RRec2.n), none⟩))), (22, gv ((!(b))) (.string (B (z_l_i.name)))), (23, gv ((!(b))) (.pointer (some ⟨w.heap.size, 0, none⟩))), (24, gv ((!(b))) (.string (B (r.name))))] ⟨b0_, b1_, b2_, b3_, b4_, q0_, q1_, q2_, q3_, q4_, q5_, q6_, q7_, q8_, q9_, trivial⟩ (fun r_ => ?_)
        refine WL.gpure (gd := (!(b))) (yl_t (d := 17) rfl rfl) (fun hg => R_seql (a := z_l_i.name) (b := r.name) (gvT hg rfl) (gvT hg rfl)) ?_
        refine WL.val1 (R_and (cb := (!(b))) (yb := decide (z_l_i.name = r.name)) rfl rfl rfl) ?_
        refine WL.nil ?_
        refine then_normal ?_
        refine WC.condI ((¬ ((b) = true) ∧ z_l_i.name = r.name)) (b := ((!(b)) && decide (z_l_i.name = r.name))) rfl (b_and (b_not Iff.rfl) b_dec) (fun c1 => ?_) (fun c1 => ?_)
        · skip
          refine WC.seq ?_
          refine WC.region ?_
          refine WL.val1 (R_move (v := .slice (acc_a) (acc).length (acc_c)) rfl) ?_
          refine WL.val1 (R_loadA (cs := [.string (B (r.name)), .slice (r_a1) (r.seens).length (r_c1), .slice (r_a2) (r.files).length (r_c2)]) rfl (hS102.has (i := 1) rfl) (Tryd.isAgg38 _) (Tryd.sizeOf38 _) rfl (sub_cells rfl)) ?_
          refine S_buildSliceC (R := RRec2) (m := 1) (vs := [(0, .agg #[.string (B (r.name)), .slice (r_a1) (r.seens).length (r_c1), .slice (r_a2) (r.files).length (r_c2)])]) (cells := [.string (B (r.name)), .slice (r_a1) (r.seens).length (r_c1), .slice (r_a2) (r.files).length (r_c2)]) (xs := [{ name := r.name, seens := r.seens, files := r.files : Rec }]) hS102 Tryd.underlying39 Tryd.sizeOf38 Tryd.zeroValue38 (by decide) (by decide) rfl (by kernel_rfl) (by exact (⟨[.string (B (r.name)), .slice (r_a1) (r.seens).length (r_c1), .slice (r_a2) (r.files).length (r_c2)], _, rfl, ⟨r_a1, r_c1, r_a2, r_c2, rfl, (sl_r0.mono (hl8.trans hl105)), (sl_r1.mono (hl8.trans hl105))⟩, rfl⟩ : Flat RRec2 _ [{ name := r.name, seens := r.seens, files := r.files : Rec }] _)) rfl ?_
          intro h108 b110 w107 hl109 hs111 hS106
          refine S_append (info := Tryd.t38) (R := RRec2) (xs := acc) (ys := [{ name := r.name, seens := r.seens, files := r.files : Rec }]) (a := acc_a) (c := acc_c) 0 Tryd.underlying39 (by kernel_rfl) rfl rfl rfl (by decide) 64 rfl hS106 rfl (hl105.trans hl109) hs111 rfl rfl (by (try simp only [List.length_append, List.length_cons, List.length_nil]); omega) (by (try simp only [List.length_append, List.length_cons, List.length_nil]); omega) ?_
          intro a112 c113 w114 hS115
          refine WL.val1 (R_assign (v := .slice (a112) ((acc ++ [{ name := r.name, seens := r.seens, files := r.files : Rec }])).length (c113)) rfl) ?_
          refine WL.nil ?_
          refine then_normal ?_
          refine WC.region ?_
          refine WL.val1 (R_assign (v := .bool (true)) rfl) ?_
          refine WL.nil ?_
          refine block_normal ?_
          refine then_normal ?_
          refine WC.region ?_
          refine WL.val1 (R_move (v := .int .i64 (((i : Nat) : Int))) rfl) ?_
          refine WL.val1 (R_add_i (a := ((i : Nat) : Int)) (b := 1) rfl rfl (by omega)) ?_
          refine WL.val1 (R_assign (v := .int .i64 ((((i : Nat) : Int) + 1))) rfl) ?_
          refine WL.nil ?_
          refine then_normal ?_
          exact ⟨(i + 1, true, (acc ++ [{ name := r.name, seens := r.seens, files := r.files : Rec }]), a112, c113), ⟨rfl, rfl, (by first | rfl | (apply congrArg (Value.int .i64); omega) | simp), (by first | rfl | (apply congrArg (Value.int .i64); omega) | simp), (by first | rfl | (apply congrArg (Value.int .i64); omega) | simp), trivial⟩, ⟨h108, ((hl8.trans hl105).trans hl109), hS115, (by (try dsimp only); first | assumption | omega | simp), (by (try dsimp only); first | (have hb_ := bool_no c1.1; subst hb_; rw [← f2, refPut_hit hz_l_i c1.2]; (try simp only [List.append_assoc, List.cons_append, List.nil_append]); done) | (rw [← f2, refPut_miss hz_l_i (fun h => c1 ⟨by rw [h.1]; simp, h.2⟩)]; (try simp only [List.append_assoc, List.cons_append, List.nil_append]); done)), (by (try dsimp only); simp; omega)⟩, (by first | (simp only []; omega) | (simp; omega))⟩
        · skip
          refine WC.region ?_
          refine WL.val1 (R_move (v := .slice (acc_a) (acc).length (acc_c)) rfl) ?_
          refine WL.val1 (R_move (v := .slice (l_a) (l).length (l_c)) rfl) ?_
          refine WL.val1 (R_move (v := .int .i64 (((i : Nat) : Int))) rfl) ?_
          refine WL.val1 (R_indexAddrE (i := ((i : Nat) : Int)) (m := i) ha36 rfl rfl Tryd.underlying39 (Tryd.sizeOf38 _) (by first | rfl | (omega)) (by omega)) ?_
          refine WL.val1 (R_loadCA (cs := [.string (B (z_l_i.name)), .slice (a40) (z_l_i.seens).length (c41), .slice (a42) (z_l_i.files).length (c43)]) hS102 rfl (hat38.mono hl105) Tryd.isAgg38 Tryd.sizeOf38 rfl) ?_
          refine S_buildSliceC (R := RRec2) (m := 1) (vs := [(0, .agg #[.string (B (z_l_i.name)), .slice (a40) (z_l_i.seens).length (c41), .slice (a42) (z_l_i.files).length (c43)])]) (cells := [.string (B (z_l_i.name)), .slice (a40) (z_l_i.seens).length (c41), .slice (a42) (z_l_i.files).length (c43)]) (xs := [z_l_i]) hS102 Tryd.underlying39 Tryd.sizeOf38 Tryd.zeroValue38 (by decide) (by decide) rfl (by kernel_rfl) (by exact (⟨[.string (B (z_l_i.name)), .slice (a40) (z_l_i.seens).length (c41), .slice (a42) (z_l_i.files).length (c43)], _, rfl, ⟨a40, c41, a42, c43, rfl, (hs44.mono hl105), (hs45.mono hl105)⟩, rfl⟩ : Flat RRec2 _ [z_l_i] _)) rfl ?_
          intro h118 b120 w117 hl119 hs121 hS116
          refine S_append (info := Tryd.t38) (R := RRec2) (xs := acc) (ys := [z_l_i]) (a := acc_a) (c := acc_c) 0 Tryd.underlying39 (by kernel_rfl) rfl rfl rfl (by decide) 64 rfl hS116 rfl (hl105.trans hl119) hs121 rfl rfl (by (try simp only [List.length_append, List.length_cons, List.length_nil]); omega) (by (try simp only [List.length_append, List.length_cons, List.length_nil]); omega) ?_
          intro a122 c123 w124 hS125
          refine WL.val1 (R_assign (v := .slice (a122) ((acc ++ [z_l_i])).length (c123)) rfl) ?_
          refine WL.nil ?_
          refine block_normal ?_
          refine then_normal ?_
          refine WC.region ?_
          refine WL.val1 (R_move (v := .int .i64 (((i : Nat) : Int))) rfl) ?_
          refine WL.val1 (R_add_i (a := ((i : Nat) : Int)) (b := 1) rfl rfl (by omega)) ?_
          refine WL.val1 (R_assign (v := .int .i64 ((((i : Nat) : Int) + 1))) rfl) ?_
          refine WL.nil ?_
          refine then_normal ?_
          exact ⟨(i + 1, b, (acc ++ [z_l_i]), a122, c123), ⟨rfl, rfl, (by first | rfl | (apply congrArg (Value.int .i64); omega) | simp), (by first | rfl | (apply congrArg (Value.int .i64); omega) | simp), (by first | rfl | (apply congrArg (Value.int .i64); omega) | simp), trivial⟩, ⟨h118, ((hl8.trans hl105).trans hl119), hS125, (by (try dsimp only); first | assumption | omega | simp), (by (try dsimp only); first | (have hb_ := bool_no c1.1; subst hb_; rw [← f2, refPut_hit hz_l_i c1.2]; (try simp only [List.append_assoc, List.cons_append, List.nil_append]); done) | (rw [← f2, refPut_miss hz_l_i (fun h => c1 ⟨by rw [h.1]; simp, h.2⟩)]; (try simp only [List.append_assoc, List.cons_append, List.nil_append]); done)), (by (try dsimp only); simp; omega)⟩, (by first | (simp only []; omega) | (simp; omega))⟩
    · skip
      refine WC.exit ?_
      refine then_exit ?_
      refine then_exit ?_
      refine block_exit ?_
      refine then_normal ?_
      refine WC.seq ?_
      refine WC.seq ?_
      refine WC.region ?_
      refine WL.val1 (R_move (v := .bool (b)) rfl) ?_
      refine WL.val1 (R_not (b := b) rfl) ?_
      refine WL.nil ?_
      refine then_normal ?_
      refine WC.condI (¬ ((b) = true)) (b := (!(b))) rfl (b_not Iff.rfl) (fun c2 => ?_) (fun c2 => ?_)
      · skip
        refine WC.region ?_
        refine WL.val1 (R_move (v := .slice (acc_a) (acc).length (acc_c)) rfl) ?_
        refine WL.val1 (R_loadA (cs := [.string (B (r.name)), .slice (r_a1) (r.seens).length (r_c1), .slice (r_a2) (r.files).length (r_c2)]) rfl (hS5.has (i := 1) rfl) (Tryd.isAgg38 _) (Tryd.sizeOf38 _) rfl (sub_cells rfl)) ?_
        refine S_buildSliceC (R := RRec2) (m := 1) (vs := [(0, .agg #[.string (B (r.name)), .slice (r_a1) (r.seens).length (r_c1), .slice (r_a2) (r.files).length (r_c2)])]) (cells := [.string (B (r.name)), .slice (r_a1) (r.seens).length (r_c1), .slice (r_a2) (r.files).length (r_c2)]) (xs := [{ name := r.name, seens := r.seens, files := r.files : Rec }]) hS5 Tryd.underlying39 Tryd.sizeOf38 Tryd.zeroValue38 (by decide) (by decide) rfl (by kernel_rfl) (by exact (⟨[.string (B (r.name)), .slice (r_a1) (r.seens).length (r_c1), .slice (r_a2) (r.files).length (r_c2)], _, rfl, ⟨r_a1, r_c1, r_a2, r_c2, rfl, (sl_r0.mono hl8), (sl_r1.mono hl8)⟩, rfl⟩ : Flat RRec2 _ [{ name := r.name, seens := r.seens, files := r.files : Rec }] _)) rfl ?_
        intro h128 b130 w127 hl129 hs131 hS126
        refine S_append (info := Tryd.t38) (R := RRec2) (xs := acc) (ys := [{ name := r.name, seens := r.seens, files := r.files : Rec }]) (a := acc_a) (c := acc_c) 0 Tryd.underlying39 (by kernel_rfl) rfl rfl rfl (by decide) 64 rfl hS126 rfl hl129 hs131 rfl rfl (by (try simp only [List.length_append, List.length_cons, List.length_nil]); omega) (by (try simp only [List.length_append, List.length_cons, List.length_nil]); omega) ?_
        intro a132 c133 w134 hS135
        refine WL.val1 (R_assign (v := .slice (a132) ((acc ++ [{ name := r.name, seens := r.seens, files := r.files : Rec }])).length (c133)) rfl) ?_
        refine WL.nil ?_
        refine then_normal ?_
        refine WC.seq ?_
        refine WC.region ?_
        refine WL.val1 (R_move (v := .slice (a132) ((acc ++ [{ name := r.name, seens := r.seens, files := r.files : Rec }])).length (c133)) rfl) ?_
        refine WL.val1 (R_assign (v := .slice (a132) ((acc ++ [{ name := r.name, seens := r.seens, files := r.files : Rec }])).length (c133)) rfl) ?_
        refine WL.nil ?_
        refine then_normal ?_
        refine WC.ret ?_
        refine top_ret (.slice (a132) ((acc ++ [{ name := r.name, seens := r.seens, files := r.files : Rec }])).length (c133)) (gives1 rfl rfl) ?_
        obtain ⟨h136, hl137, hs138, hS139⟩ := hS135.growCommit (i := 0) rfl (Hp.le_refl _)
        have e_ : refPutF r false l = acc ++ [r] := by rw [← f2, refPut_end (by omega), if_neg c2]
        exact ⟨h136, ((hl8.trans hl129).trans hl137), ⟨a132, c133, (by rw [e_]), (by first | exact hs138 | (rw [e_]; exact hs138))⟩, hS139.pop.pop⟩
      · skip
        refine WC.skip ?_
        refine then_normal ?_
        refine WC.seq ?_
        refine WC.region ?_
        refine WL.val1 (R_move (v := .slice (acc_a) (acc).length (acc_c)) rfl) ?_
        refine WL.val1 (R_assign (v := .slice (acc_a) (acc).length (acc_c)) rfl) ?_
        refine WL.nil ?_
        refine then_normal ?_
        refine WC.ret ?_
        refine top_ret (.slice (acc_a) (acc).length (acc_c)) (gives1 rfl rfl) ?_
        obtain ⟨h140, hl141, hs142, hS143⟩ := hS5.growCommit (i := 0) rfl (Hp.le_refl _)
        have e_ : refPutF r false l = acc := by rw [← f2, refPut_end (by omega), if_pos (by simpa using c2), List.append_nil]
        exact ⟨h140, (hl8.trans hl141), ⟨acc_a, acc_c, (by rw [e_]), (by first | exact hs142 | (rw [e_]; exact hs142))⟩, hS143.pop.pop⟩
set_option maxHeartbeats 400000 in
theorem ref20_Find (l : List Rec) (l_a : Option Addr) (l_c : Nat) (nm : Str) (hl : l.length ≤ 1000000) : FnC GG Tryd.prog 17 (fun h => Sl RRec2 h l l_a l_c) [.slice (l_a) (l).length (l_c), .string (B (nm))] (fun h v => ∃ (a : Option Addr) (c : Nat) (a2 : Option Addr) (c2 : Nat), v = .tuple #[.agg #[.string (B ((refFindF nm l).1.name)), .slice (a) ((refFindF nm l).1.seens).length (c), .slice (a2) ((refFindF nm l).1.files).length (c2)], .bool ((refFindF nm l).2)] ∧ (Sl RSeen2 h (refFindF nm l).1.seens a c) ∧ (Sl RFile h (refFindF nm l).1.files a2 c2)) := by
  intro Γ h L w hpre hS
  have sl_l := hpre
  refine Ret.body Tryd.func17 rfl Tryd.ntmps17 (Nat.le_of_ble_eq_true rfl) ?_
  refine WC.seq ?_
  refine WC.region ?_
  refine S_alloc hS Tryd.zeroValue38 ?_
  intro w2 hS1
  refine WL.val1 (R_assign (v := .bool (false)) rfl) ?_
  refine WL.nil ?_
  refine then_normal ?_
  refine WC.seq ?_
  refine WC.seq ?_
  refine WC.region ?_
  refine WL.val1 (R_assign (v := .int .i64 (0)) rfl) ?_
  refine WL.nil ?_
  refine then_normal ?_
  refine WC.block ?_
  refine WC.loopL (σ := Nat)
    (fun (q_ : Nat) => (fun (i : Nat) => [(0, .slice (l_a) (l).length (l_c)), (1, .string (B (nm))), (4, .pointer (some ⟨w.heap.size, 0, none⟩)), (6, .int .i64 (((i : Nat) : Int)))]) (q_))
    (fun (q_ : Nat) (w_ : World) => (fun (i : Nat) => ∃ h5 : Hp, h.le h5 ∧ St Γ h5 (row (w.heap.size) [.string (B (([] : Str))), .slice none 0 0, .slice none 0 0] 38 :: L) w_ ∧ (i ≤ l.length) ∧ (refFindF nm (l.drop i) = refFindF nm l)) (q_))
    (fun (q_ : Nat) => (fun (i : Nat) => l.length - i) (q_)) (0) ?_ ?_ ?_
  · exact ⟨rfl, rfl, rfl, (by first | rfl | (apply congrArg (Value.int .i64); omega) | simp), trivial⟩
  · exact ⟨h, Hp.le_refl _, hS1, (by first | assumption | omega | simp), (by rfl)⟩
  · rintro i r7 w4 ⟨h5, hl6, hS3, f1, f2⟩
    try dsimp only at f1 f2
    refine WC.seq ?_
    refine WC.seq ?_
    refine WC.region ?_
    refine WL.val1 (R_move (v := .int .i64 (((i : Nat) : Int))) rfl) ?_
    refine WL.val1 (R_move (v := .slice (l_a) (l).length (l_c)) rfl) ?_
    refine WL.val1 (R_len_slice (n := (l).length) rfl Tryd.underlying39) ?_
    refine WL.val1 (R_lss (a := ((i : Nat) : Int)) (b := (((l).length : Nat) : Int)) rfl rfl) ?_
    refine WL.nil ?_
    refine then_normal ?_
    refine WC.condP (((i : Nat) : Int) < (((l).length : Nat) : Int)) rfl (fun c0 => ?_) (fun c0 => ?_)
    · skip
      refine WC.skip ?_
      refine then_normal ?_
      refine WC.seq ?_
      refine WC.block ?_
      refine WC.seq ?_
      refine WC.region ?_
      refine WL.val1 (R_move (v := .slice (l_a) (l).length (l_c)) rfl) ?_
      refine WL.val1 (R_move (v := .int .i64 (((i : Nat) : Int))) rfl) ?_
      obtain ⟨z_l_i, hz_l_i⟩ : ∃ z, (l)[i]? = some z := ⟨_, List.getElem?_eq_getElem (by omega)⟩
      obtain ⟨b8, o9, cs13, ha10, hr11, hat12⟩ := (sl_l.mono hl6).2 i z_l_i hz_l_i
      obtain ⟨a14, c15, a16, c17, rfl, hs18, hs19⟩ := hr11
      refine WL.val1 (R_indexAddrE (i := ((i : Nat) : Int)) (m := i) ha10 rfl rfl Tryd.underlying39 (Tryd.sizeOf38 _) (by first | rfl | (omega)) (by omega)) ?_
      refine WL.val1 (R_fieldAddr (b := b8) (off := (o9 + i * RRec2.n)) (m := 0) rfl (fun _ => by kernel_rfl)) ?_
      refine WL.val1 (R_loadC (v := .string (B (z_l_i.name))) hS3 rfl (hat12.sub 0 1 (cs' := [.string (B (z_l_i.name))]) rfl) Tryd.isAgg9 rfl) ?_
      refine WL.val1 (R_move (v := .string (B (nm))) rfl) ?_
      refine WL.val1 (R_seql (a := z_l_i.name) (b := nm) rfl rfl) ?_
      refine WL.nil ?_
      refine then_normal ?_
      refine WC.condP (z_l_i.name = nm) rfl (fun c1 => ?_) (fun c1 => ?_)
      · skip
        refine WC.seq ?_
        refine WC.region ?_
        refine WL.val1 (R_move (v := .slice (l_a) (l).length (l_c)) rfl) ?_
        refine WL.val1 (R_move (v := .int .i64 (((i : Nat) : Int))) rfl) ?_
        refine WL.val1 (R_indexAddrE (i := ((i : Nat) : Int)) (m := i) ha10 rfl rfl Tryd.underlying39 (Tryd.sizeOf38 _) (by first | rfl | (omega)) (by omega)) ?_
        refine WL.val1 (R_loadCA (cs := [.string (B (z_l_i.name)), .slice (a14) (z_l_i.seens).length (c15), .slice (a16) (z_l_i.files).length (c17)]) hS3 rfl hat12 Tryd.isAgg38 Tryd.sizeOf38 rfl) ?_
        refine S_store (i := 0) (b := w.heap.size) (l := [.string (B (([] : Str))), .slice none 0 0, .slice none 0 0]) (l' := [.string (B (z_l_i.name)), .slice (a14) (z_l_i.seens).length (c15), .slice (a16) (z_l_i.files).length (c17)]) (vs := [.string (B (z_l_i.name)), .slice (a14) (z_l_i.seens).length (c15), .slice (a16) (z_l_i.files).length (c17)]) (v := .agg #[.string (B (z_l_i.name)), .slice (a14) (z_l_i.seens).length (c15), .slice (a16) (z_l_i.files).length (c17)]) hS3 rfl rfl rfl Tryd.sizeOf38 rfl rfl rfl (Nat.le_of_ble_eq_true rfl) rfl rfl ?_
        intro w21 hS20
        refine WL.val1 (R_assign (v := .bool (true)) rfl) ?_
        refine WL.nil ?_
        refine then_normal ?_
        refine WC.ret ?_
        refine block_ret ?_
        refine then_ret ?_
        refine then_ret ?_
        refine block_ret ?_
        refine then_ret ?_
        refine top_ret (.tuple #[.agg #[.string (B (z_l_i.name)), .slice (a14) (z_l_i.seens).length (c15), .slice (a16) (z_l_i.files).length (c17)], .bool (true)]) (givesL2 (vs := [.agg #[.string (B (z_l_i.name)), .slice (a14) (z_l_i.seens).length (c15), .slice (a16) (z_l_i.files).length (c17)], .bool (true)]) rfl ⟨⟨w.heap.size, 0, rfl, loadVarA (cs := [.string (B (z_l_i.name)), .slice (a14) (z_l_i.seens).length (c15), .slice (a16) (z_l_i.files).length (c17)]) (hS20.has (i := 0) rfl) (Tryd.isAgg38 _) (Tryd.sizeOf38 _) rfl (sub_cells rfl)⟩, rfl, trivial⟩ rfl) ?_
        have e_ : refFindF nm l = (z_l_i, true) := by rw [← f2, refFind_yes hz_l_i c1]
        exact ⟨h5, hl6, ⟨a14, c15, a16, c17, (by first | rfl | (rw [e_]; done) | (rw [e_]; rfl) | (simp; done)), (by first | exact hs18 | (rw [e_]; exact hs18)), (by first | exact hs19 | (rw [e_]; exact hs19))⟩, hS20.pop⟩
      · skip
        refine WC.skip ?_
        refine block_normal ?_
        refine then_normal ?_
        refine WC.region ?_
        refine WL.val1 (R_move (v := .int .i64 (((i : Nat) : Int))) rfl) ?_
        refine WL.val1 (R_add_i (a := ((i : Nat) : Int)) (b := 1) rfl rfl (by omega)) ?_
        refine WL.val1 (R_assign (v := .int .i64 ((((i : Nat) : Int) + 1))) rfl) ?_
        refine WL.nil ?_
        refine then_normal ?_
        exact ⟨(i + 1), ⟨rfl, rfl, rfl, (by first | rfl | (apply congrArg (Value.int .i64); omega) | simp), trivial⟩, ⟨h5, hl6, hS3, (by (try dsimp only); first | assumption | omega | simp), (by (try dsimp only); rw [← f2, refFind_no hz_l_i c1])⟩, (by first | (simp only []; omega) | (simp; omega))⟩
    · skip
      refine WC.exit ?_
      refine then_exit ?_
      refine then_exit ?_
      refine block_exit ?_
      refine then_normal ?_
      refine WC.seq ?_
      refine WC.region ?_
      refine WL.val1 (R_build (vs := []) (v := .agg #[.string (B (([] : Str))), .slice none 0 0, .slice none 0 0]) rfl (fun _ => by kernel_rfl)) ?_
      refine S_store (i := 0) (b := w.heap.size) (l := [.string (B (([] : Str))), .slice none 0 0, .slice none 0 0]) (l' := [.string (B (([] : Str))), .slice none 0 0, .slice none 0 0]) (vs := [.string (B (([] : Str))), .slice none 0 0, .slice none 0 0]) (v := .agg #[.string (B (([] : Str))), .slice none 0 0, .slice none 0 0]) hS3 rfl rfl rfl Tryd.sizeOf38 rfl rfl rfl (Nat.le_of_ble_eq_true rfl) rfl rfl ?_
      intro w23 hS22
      refine WL.val1 (R_assign (v := .bool (false)) rfl) ?_
      refine WL.nil ?_
      refine then_normal ?_
      refine WC.ret ?_
      refine top_ret (.tuple #[.agg #[.string (B (([] : Str))), .slice none 0 0, .slice none 0 0], .bool (false)]) (givesL2 (vs := [.agg #[.string (B (([] : Str))), .slice none 0 0, .slice none 0 0], .bool (false)]) rfl ⟨⟨w.heap.size, 0, rfl, loadVarA (cs := [.string (B (([] : Str))), .slice none 0 0, .slice none 0 0]) (hS22.has (i := 0) rfl) (Tryd.isAgg38 _) (Tryd.sizeOf38 _) rfl (sub_cells rfl)⟩, rfl, trivial⟩ rfl) ?_
      have e_ : refFindF nm l = (⟨[], [], []⟩, false) := by rw [← f2, refFind_end (by omega)]
      exact ⟨h5, hl6, ⟨none, 0, none, 0, (by first | rfl | (rw [e_]; done) | (rw [e_]; rfl) | (simp; done)), (by first | exact Sl.nil _ _ _ _ | (rw [e_]; exact Sl.nil _ _ _ _)), (by first | exact Sl.nil _ _ _ _ | (rw [e_]; exact Sl.nil _ _ _ _))⟩, hS22.pop⟩
end Go.Stet
