/- A part of the proof engine: rules for steps of the machine over frames and memory. Each under the conditions that its own statement names. -/
import Derived.Test.YtejombkbijackaaDoorSeatD2
import Derived.Test.YtejombkbijackaaDoorBldD
import Derived.Test.YtejombkbijackaaDoorEng15
import Derived.Test.YtejombkbijackaaDoorSpec12
import Derived.Test.YtejombkbijackaaDoorD9
set_option linter.all false
set_option linter.unusedSimpArgs false
set_option linter.unusedVariables false
namespace Go.Stet
open Go Go.Eng Go.Proofs
set_option maxHeartbeats 400000 in
theorem rec_Right (l : List Rec) (l_a : Option Addr) (l_c : Nat) (hz : SzL l) : PureC GG Tryd.prog 33 (fun h => Sl RRec h l l_a l_c) [.slice (l_a) (l).length (l_c)] (.bool (rgtS l)) := by
  intro Γ h L w hpre hS
  have sl_l := hpre
  have hl := hz.1
  refine Ret.body Tryd.func33 rfl Tryd.ntmps33 (Nat.le_of_ble_eq_true rfl) ?_
  refine WC.seq ?_
  refine WC.region ?_
  refine WL.val1 (R_assign (v := .bool (false)) rfl) ?_
  refine WL.nil ?_
  refine then_normal ?_
  refine WC.seq ?_
  refine WC.region ?_
  refine S_makeMap hS ?_
  intro w2 hS1
  refine WL.val1 (R_assign (v := .map (some (w.heap.size))) rfl) ?_
  refine WL.nil ?_
  refine then_normal ?_
  refine WC.seq ?_
  refine WC.seq ?_
  refine WC.region ?_
  refine WL.val1 (R_move (v := .slice (l_a) (l).length (l_c)) rfl) ?_
  refine WL.val1 (R_len_slice (n := (l).length) rfl Tryd.underlying22) ?_
  refine WL.val1 (R_move (v := .int .i64 (0)) rfl) ?_
  refine WL.nil ?_
  refine then_normal ?_
  refine WC.block ?_
  refine WC.loopL (σ := Nat × (Str → Int))
    (fun (q_ : Nat × (Str → Int)) => (fun (i : Nat) (f : Str → Int) => [(0, .slice (l_a) (l).length (l_c)), (3, .map (some (w.heap.size))), (7, .slice (l_a) (l).length (l_c)), (8, .int .i64 ((((l).length : Nat) : Int))), (9, .int .i64 (((i : Nat) : Int)))]) (q_.1) (q_.2))
    (fun (q_ : Nat × (Str → Int)) (w_ : World) => (fun (i : Nat) (f : Str → Int) => ∃ h5 : Hp, h.le h5 ∧ St Γ h5 (mpI (w.heap.size) (f) :: L) w_ ∧ (i ≤ l.length) ∧ (rgtF (l.take i) (l.drop i) = rgtF [] l) ∧ (∀ k, f k = cnt (dupR k (l.take i)))) (q_.1) (q_.2))
    (fun (q_ : Nat × (Str → Int)) => (fun (i : Nat) (f : Str → Int) => l.length - i) (q_.1) (q_.2)) (0, (fun _ => 0)) ?_ ?_ ?_
  · exact ⟨rfl, rfl, rfl, rfl, (by first | rfl | (apply congrArg (Value.int .i64); omega) | simp), trivial⟩
  · exact ⟨h, Hp.le_refl _, hS1, (by first | assumption | omega | simp), (by rfl), (by exact fun k => by rw [dupR_zero]; rfl)⟩
  · rintro ⟨i, f⟩ r7 w4 ⟨h5, hl6, hS3, f1, f2, f3⟩
    try dsimp only at f1 f2 f3
    refine WC.seq ?_
    refine WC.region ?_
    refine WL.val1 (R_lss (a := ((i : Nat) : Int)) (b := (((l).length : Nat) : Int)) rfl rfl) ?_
    refine WL.nil ?_
    refine then_normal ?_
    refine WC.seq ?_
    refine WC.condP (((i : Nat) : Int) < (((l).length : Nat) : Int)) rfl (fun c0 => ?_) (fun c0 => ?_)
    · skip
      refine WC.skip ?_
      refine then_normal ?_
      refine WC.seq ?_
      refine WC.block ?_
      refine WC.seq ?_
      refine WC.region ?_
      obtain ⟨z_l_i, hz_l_i⟩ : ∃ z, (l)[i]? = some z := ⟨_, List.getElem?_eq_getElem (by omega)⟩
      obtain ⟨b8, o9, cs13, ha10, hr11, hat12⟩ := (sl_l.mono hl6).2 i z_l_i hz_l_i
      obtain ⟨a14, c15, a16, c17, rfl, hs18, hs19⟩ := hr11
      have hb_l_i := hz.2 z_l_i (List.mem_of_getElem? hz_l_i)
      refine WL.val1 (R_indexAddrE (i := ((i : Nat) : Int)) (m := i) ha10 rfl rfl Tryd.underlying22 (Tryd.sizeOf35 _) (by first | rfl | (omega)) (by omega)) ?_
      refine WL.val1 (R_loadCA (cs := [.string (B (z_l_i.name)), .slice (a14) (z_l_i.seens).length (c15), .slice (a16) (z_l_i.files).length (c17)]) hS3 rfl hat12 Tryd.isAgg35 Tryd.sizeOf35 rfl) ?_
      refine S_alloc hS3 Tryd.zeroValue35 ?_
      intro w21 hS20
      refine S_store (i := 0) (b := w4.heap.size) (l := [.string (B (([] : Str))), .slice none 0 0, .slice none 0 0]) (l' := [.string (B (z_l_i.name)), .slice (a14) (z_l_i.seens).length (c15), .slice (a16) (z_l_i.files).length (c17)]) (vs := [.string (B (z_l_i.name)), .slice (a14) (z_l_i.seens).length (c15), .slice (a16) (z_l_i.files).length (c17)]) (v := .agg #[.string (B (z_l_i.name)), .slice (a14) (z_l_i.seens).length (c15), .slice (a16) (z_l_i.files).length (c17)]) hS20 rfl rfl rfl Tryd.sizeOf35 rfl rfl rfl (Nat.le_of_ble_eq_true rfl) rfl rfl ?_
      intro w23 hS22
      refine WL.nil ?_
      refine then_normal ?_
      refine WC.seq ?_
      refine WC.region ?_
      refine WL.val1 (R_move (v := .map (some (w.heap.size))) rfl) ?_
      refine WL.val1 (R_fieldAddr (b := w4.heap.size) (off := 0) (m := 0) rfl (fun _ => by kernel_rfl)) ?_
      refine WL.val1 (R_load (v := .string (B (z_l_i.name))) rfl (hS22.has (i := 0) rfl) (Tryd.isAgg9 _) rfl) ?_
      refine S_lookup (i := 1) (b := w.heap.size) (f := f) (k := z_l_i.name) hS22 rfl rfl rfl Tryd.underlying87 Tryd.underlying9 (fun _ => by kernel_rfl) ?_
      have hl1 : f z_l_i.name = cnt (dupR z_l_i.name (l.take i)) := f3 z_l_i.name
      have hl2 := cnt_rng (dupR z_l_i.name (l.take i))
      refine WL.val1 (R_add_i (a := (f z_l_i.name)) (b := 1) rfl rfl (by omega)) ?_
      refine S_mapUpdate (i := 1) (b := w.heap.size) (f := f) (k := z_l_i.name) (v := ((f z_l_i.name) + 1)) hS22 rfl rfl rfl rfl Tryd.underlying87 Tryd.underlying9 rfl ?_
      intro w25 hS24
      refine WL.nil ?_
      refine then_normal ?_
      refine WC.seq ?_
      refine WC.region ?_
      refine WL.val1 (R_move (v := .map (some (w.heap.size))) rfl) ?_
      refine WL.val1 (R_fieldAddr (b := w4.heap.size) (off := 0) (m := 0) rfl (fun _ => by kernel_rfl)) ?_
      refine WL.val1 (R_load (v := .string (B (z_l_i.name))) rfl (hS24.has (i := 0) rfl) (Tryd.isAgg9 _) rfl) ?_
      refine S_lookup (i := 1) (b := w.heap.size) (f := fput (f) z_l_i.name (((f z_l_i.name) + 1))) (k := z_l_i.name) hS24 rfl rfl rfl Tryd.underlying87 Tryd.underlying9 (fun _ => by kernel_rfl) ?_
      have hl3 := fput_same f z_l_i.name (f z_l_i.name + 1)
      refine WL.val1 (R_gtr (a := ((fput (f) z_l_i.name (((f z_l_i.name) + 1))) z_l_i.name)) (b := 1) rfl rfl) ?_
      refine WL.val1 (R_move (v := .bool (decide (1 < ((fput (f) z_l_i.name (((f z_l_i.name) + 1))) z_l_i.name)))) rfl) ?_
      refine WL.gpure (gd := (!(decide (1 < ((fput (f) z_l_i.name (((f z_l_i.name) + 1))) z_l_i.name))))) (yl_f (d := 23) rfl rfl) (fun hg => R_loadA (cs := [.string (B (z_l_i.name)), .slice (a14) (z_l_i.seens).length (c15), .slice (a16) (z_l_i.files).length (c17)]) rfl (hS24.has (i := 0) rfl) (Tryd.isAgg35 _) (Tryd.sizeOf35 _) rfl (sub_cells rfl)) ?_
      refine S_gcallP (vs := [.agg #[.string (B (z_l_i.name)), .slice (a14) (z_l_i.seens).length (c15), .slice (a16) (z_l_i.files).length (c17)]]) (gd := (!(decide (1 < ((fput (f) z_l_i.name (((f z_l_i.name) + 1))) z_l_i.name))))) hS24 Tryd.call41 (yl_f (d := 23) rfl rfl) (fun hg => (hmap1 (gvT hg rfl))) (fun hg => (rec_may (z_l_i) (a14) (c15) (a16) (c17) (by first | assumption | omega))) (fun hg => ⟨hs18, hs19⟩) ?_
      intro w27 hS26
      refine WL.gpure (gd := (!(decide (1 < ((fput (f) z_l_i.name (((f z_l_i.name) + 1))) z_l_i.name))))) (yl_f (d := 23) rfl rfl) (fun hg => R_not (b := mayS z_l_i) (gvT hg rfl)) ?_
      refine WL.val1 (R_or (cb := decide (1 < ((fput (f) z_l_i.name (((f z_l_i.name) + 1))) z_l_i.name))) (yb := (!(mayS z_l_i))) rfl rfl rfl) ?_
      refine WL.nil ?_
      refine then_normal ?_
      refine WC.condI ((1 < ((fput (f) z_l_i.name (((f z_l_i.name) + 1))) z_l_i.name) ∨ ¬ ((mayS z_l_i) = true))) (b := (decide (1 < ((fput (f) z_l_i.name (((f z_l_i.name) + 1))) z_l_i.name)) || (!(mayS z_l_i)))) rfl (b_or b_dec (b_not Iff.rfl)) (fun c1 => ?_) (fun c1 => ?_)
      · skip
        refine WC.seq ?_
        refine WC.region ?_
        refine WL.val1 (R_assign (v := .bool (false)) rfl) ?_
        refine WL.nil ?_
        refine then_normal ?_
        refine WC.ret ?_
        refine block_ret ?_
        refine then_ret ?_
        refine then_ret ?_
        refine block_ret ?_
        refine then_ret ?_
        refine top_ret (.bool (false)) (gives1 rfl rfl) ?_
        exact ⟨(by apply congrArg Value.bool; rw [rgtS, ← f2, rgtF_no hz_l_i (c1.imp (cnt_gt hl1 hl3).1 (by simp))]; rfl), (hS26.pop.pop.weaken_h hl6)⟩
      · skip
        refine WC.skip ?_
        refine block_normal ?_
        refine then_normal ?_
        refine WC.region ?_
        refine WL.val1 (R_add_i (a := ((i : Nat) : Int)) (b := 1) rfl rfl (by omega)) ?_
        refine WL.val1 (R_move (v := .int .i64 ((((i : Nat) : Int) + 1))) rfl) ?_
        refine WL.nil ?_
        refine then_normal ?_
        exact ⟨(i + 1, (fput (f) z_l_i.name (((f z_l_i.name) + 1)))), ⟨rfl, rfl, rfl, rfl, (by first | rfl | (apply congrArg (Value.int .i64); omega) | simp), trivial⟩, ⟨h5, hl6, hS26.pop, (by (try dsimp only); first | assumption | omega | simp), (by (try dsimp only); rw [← f2]; have c2 := not_or.1 c1; exact (rgtF_yes hz_l_i (bool_no (mt (cnt_gt hl1 hl3).2 c2.1)) (by cases hh : mayS z_l_i; exact absurd (by rw [hh]; decide) c2.2; rfl)).symm), (by (try dsimp only); have c2 := not_or.1 c1; exact cntR_step hz_l_i f3 (bool_no (mt (cnt_gt hl1 hl3).2 c2.1)))⟩, (by first | (simp only []; omega) | (simp; omega))⟩
    · skip
      refine WC.exit ?_
      refine then_exit ?_
      refine then_exit ?_
      refine block_exit ?_
      refine then_normal ?_
      refine WC.seq ?_
      refine WC.region ?_
      refine WL.val1 (R_move (v := .slice (l_a) (l).length (l_c)) rfl) ?_
      refine WL.val1 (R_len_slice (n := (l).length) rfl Tryd.underlying22) ?_
      refine WL.val1 (R_leq (a := (((l).length : Nat) : Int)) (b := 12) rfl rfl) ?_
      refine WL.val1 (R_assign (v := .bool (decide ((((l).length : Nat) : Int) ≤ 12))) rfl) ?_
      refine WL.nil ?_
      refine then_normal ?_
      refine WC.ret ?_
      refine top_ret (.bool (decide ((((l).length : Nat) : Int) ≤ 12))) (gives1 rfl rfl) ?_
      exact ⟨(by apply congrArg Value.bool; exact (rgtS_end (by omega) f2).symm), (hS3.pop.weaken_h hl6)⟩
set_option maxHeartbeats 400000 in
theorem rec_text (r : Rec) (r_a1 : Option Addr) (r_c1 : Nat) (r_a2 : Option Addr) (r_c2 : Nat) (hz : SzR r) : PureC GG Tryd.prog 35 (fun h => Sl RSeen h r.seens r_a1 r_c1 ∧ Sl RFile h r.files r_a2 r_c2) [.agg #[.string (B (r.name)), .slice (r_a1) (r.seens).length (r_c1), .slice (r_a2) (r.files).length (r_c2)]] (.string (B (textS r))) := by
  intro Γ h L w hpre hS
  obtain ⟨sl_r0, sl_r1⟩ := hpre
  have hl := hz.pieces
  refine Ret.body Tryd.func35 rfl Tryd.ntmps35 (Nat.le_of_ble_eq_true rfl) ?_
  refine WC.seq ?_
  refine WC.region ?_
  refine S_box (l := [.string (B (r.name)), .slice (r_a1) (r.seens).length (r_c1), .slice (r_a2) (r.files).length (r_c2)]) (v := .agg #[.string (B (r.name)), .slice (r_a1) (r.seens).length (r_c1), .slice (r_a2) (r.files).length (r_c2)]) hS rfl rfl ?_
  intro w2 hS1
  refine WL.val1 (R_assign (v := .string (B (([] : Str)))) rfl) ?_
  refine WL.nil ?_
  refine then_normal ?_
  refine WC.seq ?_
  refine WC.region ?_
  refine WL.val1 (R_assign (v := .string (B (([] : Str)))) rfl) ?_
  refine WL.nil ?_
  refine then_normal ?_
  refine WC.seq ?_
  refine WC.seq ?_
  refine WC.region ?_
  refine WL.val1 (R_fieldAddr (b := w.heap.size) (off := 0) (m := 1) rfl (fun _ => by kernel_rfl)) ?_
  refine WL.val1 (R_load (v := .slice (r_a1) (r.seens).length (r_c1)) rfl (hS1.has (i := 0) rfl) (Tryd.isAgg30 _) rfl) ?_
  refine WL.val1 (R_len_slice (n := (r.seens).length) rfl Tryd.underlying30) ?_
  refine WL.val1 (R_move (v := .int .i64 (0)) rfl) ?_
  refine WL.nil ?_
  refine then_normal ?_
  refine WC.block ?_
  refine WC.loopL (σ := Nat × Str)
    (fun (q_ : Nat × Str) => (fun (i : Nat) (out : Str) => [(1, .pointer (some ⟨w.heap.size, 0, none⟩)), (3, .string (B (out))), (8, .slice (r_a1) (r.seens).length (r_c1)), (9, .int .i64 ((((r.seens).length : Nat) : Int))), (10, .int .i64 (((i : Nat) : Int)))]) (q_.1) (q_.2))
    (fun (q_ : Nat × Str) (w_ : World) => (fun (i : Nat) (out : Str) => ∃ h5 : Hp, h.le h5 ∧ St Γ h5 (row (w.heap.size) [.string (B (r.name)), .slice (r_a1) (r.seens).length (r_c1), .slice (r_a2) (r.files).length (r_c2)] 35 :: L) w_ ∧ (i ≤ r.seens.length) ∧ (out ++ seensS (r.seens.drop i) = seensS r.seens) ∧ (out.length ≤ i * 2100)) (q_.1) (q_.2))
    (fun (q_ : Nat × Str) => (fun (i : Nat) (out : Str) => r.seens.length - i) (q_.1) (q_.2)) (0, []) ?_ ?_ ?_
  · exact ⟨rfl, (by first | rfl | (apply congrArg (Value.int .i64); omega) | simp), rfl, rfl, (by first | rfl | (apply congrArg (Value.int .i64); omega) | simp), trivial⟩
  · exact ⟨h, Hp.le_refl _, hS1, (by first | assumption | omega | simp), (by rfl), (by first | assumption | omega | simp)⟩
  · rintro ⟨i, out⟩ r7 w4 ⟨h5, hl6, hS3, f1, f2, f3⟩
    try dsimp only at f1 f2 f3
    refine WC.seq ?_
    refine WC.region ?_
    refine WL.val1 (R_lss (a := ((i : Nat) : Int)) (b := (((r.seens).length : Nat) : Int)) rfl rfl) ?_
    refine WL.nil ?_
    refine then_normal ?_
    refine WC.seq ?_
    refine WC.condP (((i : Nat) : Int) < (((r.seens).length : Nat) : Int)) rfl (fun c0 => ?_) (fun c0 => ?_)
    · skip
      refine WC.skip ?_
      refine then_normal ?_
      refine WC.seq ?_
      refine WC.block ?_
      refine WC.seq ?_
      refine WC.region ?_
      obtain ⟨z_r_seens_i, hz_r_seens_i⟩ : ∃ z, (r.seens)[i]? = some z := ⟨_, List.getElem?_eq_getElem (by first | omega | (have q9 : m.length ≤ z_r_seens_i.text.length + 1 := g1 ▸ markS_len z_r_seens_i; have q2 := putS_len z_r_seens_i.name (by omega); have q3 := putS_len m (by omega); (try simp only [List.length_append]); omega) | (have q4 := seensS_len hz.2.1.2; have q5 := filesS_len hz.2.2.2; have q6 := putS_len r.name (by omega); have q7 := putS_len out (by omega); have q8 := putS_len (filesS r.files) (by omega); (try simp only [List.length_append]); omega))⟩
      obtain ⟨b8, o9, cs13, ha10, hr11, hat12⟩ := (sl_r0.mono hl6).2 i z_r_seens_i hz_r_seens_i
      subst hr11
      have hb_r_seens_i := hz.2.1.2 z_r_seens_i (List.mem_of_getElem? hz_r_seens_i)
      refine WL.val1 (R_indexAddrE (i := ((i : Nat) : Int)) (m := i) ha10 rfl rfl Tryd.underlying30 (Tryd.sizeOf51 _) (by first | rfl | (first | omega | (have q9 : m.length ≤ z_r_seens_i.text.length + 1 := g1 ▸ markS_len z_r_seens_i; have q2 := putS_len z_r_seens_i.name (by omega); have q3 := putS_len m (by omega); (try simp only [List.length_append]); omega) | (have q4 := seensS_len hz.2.1.2; have q5 := filesS_len hz.2.2.2; have q6 := putS_len r.name (by omega); have q7 := putS_len out (by omega); have q8 := putS_len (filesS r.files) (by omega); (try simp only [List.length_append]); omega))) (by first | omega | (have q9 : m.length ≤ z_r_seens_i.text.length + 1 := g1 ▸ markS_len z_r_seens_i; have q2 := putS_len z_r_seens_i.name (by omega); have q3 := putS_len m (by omega); (try simp only [List.length_append]); omega) | (have q4 := seensS_len hz.2.1.2; have q5 := filesS_len hz.2.2.2; have q6 := putS_len r.name (by omega); have q7 := putS_len out (by omega); have q8 := putS_len (filesS r.files) (by omega); (try simp only [List.length_append]); omega))) ?_
      refine WL.val1 (R_loadCA (cs := [.string (B (z_r_seens_i.name)), .bool (z_r_seens_i.there), .string (B (z_r_seens_i.text))]) hS3 rfl hat12 Tryd.isAgg51 Tryd.sizeOf51 rfl) ?_
      refine S_alloc hS3 Tryd.zeroValue51 ?_
      intro w15 hS14
      refine S_store (i := 0) (b := w4.heap.size) (l := [.string (B (([] : Str))), .bool (false), .string (B (([] : Str)))]) (l' := [.string (B (z_r_seens_i.name)), .bool (z_r_seens_i.there), .string (B (z_r_seens_i.text))]) (vs := [.string (B (z_r_seens_i.name)), .bool (z_r_seens_i.there), .string (B (z_r_seens_i.text))]) (v := .agg #[.string (B (z_r_seens_i.name)), .bool (z_r_seens_i.there), .string (B (z_r_seens_i.text))]) hS14 rfl rfl rfl Tryd.sizeOf51 rfl rfl rfl (Nat.le_of_ble_eq_true rfl) rfl rfl ?_
      intro w17 hS16
      refine WL.nil ?_
      refine then_normal ?_
      refine WC.seq ?_
      refine WC.region ?_
      refine WL.val1 (R_assign (v := .string (B (([45] : Str)))) rfl) ?_
      refine WL.nil ?_
      refine then_normal ?_
      refine WC.seq ?_
      refine WC.seq ?_
      refine WC.region ?_
      refine WL.val1 (R_fieldAddr (b := w4.heap.size) (off := 0) (m := 1) rfl (fun _ => by kernel_rfl)) ?_
      refine WL.val1 (R_load (v := .bool (z_r_seens_i.there)) rfl (hS16.has (i := 0) rfl) (Tryd.isAgg4 _) rfl) ?_
      refine WL.nil ?_
      refine then_normal ?_
      refine WC.cutS (σ := Str)
        (fun (q_ : Str) => (fun (m : Str) => [(1, .pointer (some ⟨w.heap.size, 0, none⟩)), (3, .string (B (out))), (5, .pointer (some ⟨w4.heap.size, 0, none⟩)), (6, .string (B (m))), (8, .slice (r_a1) (r.seens).length (r_c1)), (9, .int .i64 ((((r.seens).length : Nat) : Int))), (10, .int .i64 (((i : Nat) : Int)))]) (q_))
        (fun (q_ : Str) (w_ : World) => (fun (m : Str) => ∃ h20 : Hp, h5.le h20 ∧ St Γ h20 (row (w4.heap.size) [.string (B (z_r_seens_i.name)), .bool (z_r_seens_i.there), .string (B (z_r_seens_i.text))] 51 :: row (w.heap.size) [.string (B (r.name)), .slice (r_a1) (r.seens).length (r_c1), .slice (r_a2) (r.files).length (r_c2)] 35 :: L) w_ ∧ (m = markS z_r_seens_i)) (q_)) ?_ ?_
      · skip
        refine WC.condI ((z_r_seens_i.there) = true) (b := z_r_seens_i.there) rfl Iff.rfl (fun c1 => ?_) (fun c1 => ?_)
        · skip
          refine WC.region ?_
          refine WL.val1 (R_fieldAddr (b := w4.heap.size) (off := 0) (m := 2) rfl (fun _ => by kernel_rfl)) ?_
          refine WL.val1 (R_load (v := .string (B (z_r_seens_i.text))) rfl (hS16.has (i := 0) rfl) (Tryd.isAgg9 _) rfl) ?_
          refine WL.val1 (R_sadd (a := ([43] : Str)) (b := z_r_seens_i.text) rfl rfl (by (try simp only [List.length_append, List.length_cons, List.length_nil]); first | omega | (have q9 : m.length ≤ z_r_seens_i.text.length + 1 := g1 ▸ markS_len z_r_seens_i; have q2 := putS_len z_r_seens_i.name (by omega); have q3 := putS_len m (by omega); (try simp only [List.length_append]); omega) | (have q4 := seensS_len hz.2.1.2; have q5 := filesS_len hz.2.2.2; have q6 := putS_len r.name (by omega); have q7 := putS_len out (by omega); have q8 := putS_len (filesS r.files) (by omega); (try simp only [List.length_append]); omega))) ?_
          refine WL.val1 (R_assign (v := .string (B ((([43] : Str) ++ z_r_seens_i.text)))) rfl) ?_
          refine WL.nil ?_
          refine then_normal ?_
          exact ⟨((([43] : Str) ++ z_r_seens_i.text)), ⟨rfl, rfl, rfl, (by rfl), rfl, rfl, rfl, trivial⟩, ⟨h5, (Hp.le_refl _), hS16, (by first | exact (markS_yes c1).symm | exact (markS_no c1).symm)⟩⟩
        · skip
          refine WC.skip ?_
          refine then_normal ?_
          exact ⟨(([45] : Str)), ⟨rfl, rfl, rfl, (by rfl), rfl, rfl, rfl, trivial⟩, ⟨h5, (Hp.le_refl _), hS16, (by first | exact (markS_yes c1).symm | exact (markS_no c1).symm)⟩⟩
      · rintro m r22 w19 ⟨h20, hl21, hS18, g1⟩
        try dsimp only at g1
        refine WC.region ?_
        refine WL.val1 (R_move (v := .string (B (out))) rfl) ?_
        refine WL.val1 (R_fieldAddr (b := w4.heap.size) (off := 0) (m := 0) rfl (fun _ => by kernel_rfl)) ?_
        refine WL.val1 (R_load (v := .string (B (z_r_seens_i.name))) rfl (hS18.has (i := 0) rfl) (Tryd.isAgg9 _) rfl) ?_
        refine S_callP (vs := [.string (B (z_r_seens_i.name))]) hS18 Tryd.call34 rfl (wire_Put (z_r_seens_i.name) (by first | assumption | omega | exact hz.2.2 | (first | omega | (have q9 : m.length ≤ z_r_seens_i.text.length + 1 := g1 ▸ markS_len z_r_seens_i; have q2 := putS_len z_r_seens_i.name (by omega); have q3 := putS_len m (by omega); (try simp only [List.length_append]); omega) | (have q4 := seensS_len hz.2.1.2; have q5 := filesS_len hz.2.2.2; have q6 := putS_len r.name (by omega); have q7 := putS_len out (by omega); have q8 := putS_len (filesS r.files) (by omega); (try simp only [List.length_append]); omega)))) trivial ?_
        intro w24 hS23
        refine WL.val1 (R_move (v := .string (B (m))) rfl) ?_
        refine S_callP (vs := [.string (B (m))]) hS23 Tryd.call34 rfl (wire_Put (m) (by first | assumption | omega | exact hz.2.2 | (first | omega | (have q9 : m.length ≤ z_r_seens_i.text.length + 1 := g1 ▸ markS_len z_r_seens_i; have q2 := putS_len z_r_seens_i.name (by omega); have q3 := putS_len m (by omega); (try simp only [List.length_append]); omega) | (have q4 := seensS_len hz.2.1.2; have q5 := filesS_len hz.2.2.2; have q6 := putS_len r.name (by omega); have q7 := putS_len out (by omega); have q8 := putS_len (filesS r.files) (by omega); (try simp only [List.length_append]); omega)))) trivial ?_
        intro w26 hS25
        refine WL.val1 (R_sadd (a := putS z_r_seens_i.name) (b := putS m) rfl rfl (by (try simp only [List.length_append, List.length_cons, List.length_nil]); first | omega | (have q9 : m.length ≤ z_r_seens_i.text.length + 1 := g1 ▸ markS_len z_r_seens_i; have q2 := putS_len z_r_seens_i.name (by omega); have q3 := putS_len m (by omega); (try simp only [List.length_append]); omega) | (have q4 := seensS_len hz.2.1.2; have q5 := filesS_len hz.2.2.2; have q6 := putS_len r.name (by omega); have q7 := putS_len out (by omega); have q8 := putS_len (filesS r.files) (by omega); (try simp only [List.length_append]); omega))) ?_
        refine WL.val1 (R_sadd (a := out) (b := (putS z_r_seens_i.name ++ putS m)) rfl rfl (by (try simp only [List.length_append, List.length_cons, List.length_nil]); first | omega | (have q9 : m.length ≤ z_r_seens_i.text.length + 1 := g1 ▸ markS_len z_r_seens_i; have q2 := putS_len z_r_seens_i.name (by omega); have q3 := putS_len m (by omega); (try simp only [List.length_append]); omega) | (have q4 := seensS_len hz.2.1.2; have q5 := filesS_len hz.2.2.2; have q6 := putS_len r.name (by omega); have q7 := putS_len out (by omega); have q8 := putS_len (filesS r.files) (by omega); (try simp only [List.length_append]); omega))) ?_
        refine WL.val1 (R_assign (v := .string (B ((out ++ (putS z_r_seens_i.name ++ putS m))))) rfl) ?_
        refine WL.nil ?_
        refine block_normal ?_
        refine then_normal ?_
        refine WC.region ?_
        refine WL.val1 (R_add_i (a := ((i : Nat) : Int)) (b := 1) rfl rfl (by first | omega | (have q9 : m.length ≤ z_r_seens_i.text.length + 1 := g1 ▸ markS_len z_r_seens_i; have q2 := putS_len z_r_seens_i.name (by omega); have q3 := putS_len m (by omega); (try simp only [List.length_append]); omega) | (have q4 := seensS_len hz.2.1.2; have q5 := filesS_len hz.2.2.2; have q6 := putS_len r.name (by omega); have q7 := putS_len out (by omega); have q8 := putS_len (filesS r.files) (by omega); (try simp only [List.length_append]); omega))) ?_
        refine WL.val1 (R_move (v := .int .i64 ((((i : Nat) : Int) + 1))) rfl) ?_
        refine WL.nil ?_
        refine then_normal ?_
        exact ⟨(i + 1, (out ++ (putS z_r_seens_i.name ++ putS m))), ⟨rfl, (by first | rfl | (apply congrArg (Value.int .i64); omega) | simp), rfl, rfl, (by first | rfl | (apply congrArg (Value.int .i64); omega) | simp), trivial⟩, ⟨h20, (hl6.trans hl21), hS25.pop, (by (try dsimp only); first | assumption | omega | simp), (by (try dsimp only); rw [← f2, seensS_step hz_r_seens_i, ← seenS_eq _ _ g1]; (try simp only [List.append_assoc])), (by (try dsimp only); first | omega | (have q9 : m.length ≤ z_r_seens_i.text.length + 1 := g1 ▸ markS_len z_r_seens_i; have q2 := putS_len z_r_seens_i.name (by omega); have q3 := putS_len m (by omega); (try simp only [List.length_append]); omega) | (have q4 := seensS_len hz.2.1.2; have q5 := filesS_len hz.2.2.2; have q6 := putS_len r.name (by omega); have q7 := putS_len out (by omega); have q8 := putS_len (filesS r.files) (by omega); (try simp only [List.length_append]); omega))⟩, (by first | (simp only []; omega) | (simp; omega))⟩
    · skip
      refine WC.exit ?_
      refine then_exit ?_
      refine then_exit ?_
      refine block_exit ?_
      refine then_normal ?_
      refine WC.seq ?_
      refine WC.draw 10 [(1, .pointer (some ⟨w.heap.size, 0, none⟩)), (3, .string (B (out)))] [fun _ v => v = .pointer (some ⟨w.heap.size, 0, none⟩), fun _ v => v = .string (B (r.name)), fun _ v => v = .string (B (putS r.name)), fun _ v => v = .string (B (out)), fun _ v => v = .string (B (putS out)), fun _ v => v = .string (B ((putS r.name ++ putS out))), fun _ v => v = .pointer (some ⟨w.heap.size, 2, none⟩), fun _ v => v = .slice (r_a2) (r.files).length (r_c2), fun _ v => v = .string (B (filesS r.files)), fun _ v => v = .string (B (putS (filesS r.files)))] hS3 (by kernel_rfl) (by kernel_rfl) (MonoFs.pure (MonoFs.pure (MonoFs.pure (MonoFs.pure (MonoFs.pure (MonoFs.pure (MonoFs.pure (MonoFs.pure (MonoFs.pure (MonoFs.pure MonoFs.nil)))))))))) ⟨rfl, rfl, trivial⟩ ⟨?_, ?_, ?_, ?_, ?_, ?_, ?_, ?_, ?_, ?_, trivial⟩ ?_
      · intro r_ w76 h77 hl78 hS75 hb_ hp_
        obtain ⟨b0_, b1_, _⟩ := hb_
        refine WL.val1 (R_fieldAddr (b := w.heap.size) (off := 0) (m := 0) b0_ (fun _ => by kernel_rfl)) ?_
        refine WL.nil ?_
        exact ⟨rfl, _, _, rfl, (Hp.le_refl _), rfl, hS75⟩
      · intro r_ w80 h81 hl82 hS79 hb_ hp_
        obtain ⟨b0_, b1_, _⟩ := hb_
        obtain ⟨p0_, _⟩ := hp_
        have p0_ : r_ 28 = .pointer (some ⟨w.heap.size, 0, none⟩) := p0_
        refine WL.val1 (R_load (v := .string (B (r.name))) p0_ (hS79.has (i := 0) rfl) (Tryd.isAgg9 _) rfl) ?_
        refine WL.nil ?_
        exact ⟨rfl, _, _, rfl, (Hp.le_refl _), rfl, hS79⟩
      · intro r_ w84 h85 hl86 hS83 hb_ hp_
        obtain ⟨b0_, b1_, _⟩ := hb_
        obtain ⟨p0_, _⟩ := hp_
        have p0_ : r_ 29 = .string (B (r.name)) := p0_
        refine S_callP (vs := [.string (B (r.name))]) hS83 Tryd.call34 (hmap1 p0_) (wire_Put (r.name) (by first | assumption | omega | exact hz.2.2 | (first | omega | (have q9 : m.length ≤ z_r_seens_i.text.length + 1 := g1 ▸ markS_len z_r_seens_i; have q2 := putS_len z_r_seens_i.name (by omega); have q3 := putS_len m (by omega); (try simp only [List.length_append]); omega) | (have q4 := seensS_len hz.2.1.2; have q5 := filesS_len hz.2.2.2; have q6 := putS_len r.name (by omega); have q7 := putS_len out (by omega); have q8 := putS_len (filesS r.files) (by omega); (try simp only [List.length_append]); omega)))) trivial ?_
        intro w88 hS87
        refine WL.nil ?_
        exact ⟨rfl, _, _, rfl, (Hp.le_refl _), rfl, hS87⟩
      · intro r_ w90 h91 hl92 hS89 hb_ hp_
        obtain ⟨b0_, b1_, _⟩ := hb_
        refine WL.val1 (R_move (v := .string (B (out))) b1_) ?_
        refine WL.nil ?_
        exact ⟨rfl, _, _, rfl, (Hp.le_refl _), rfl, hS89⟩
      · intro r_ w94 h95 hl96 hS93 hb_ hp_
        obtain ⟨b0_, b1_, _⟩ := hb_
        obtain ⟨p0_, p1_, _⟩ := hp_
        have p0_ : r_ 31 = .string (B (out)) := p0_
        have p1_ : r_ 30 = .string (B (putS r.name)) := p1_
        refine S_callP (vs := [.string (B (out))]) hS93 Tryd.call34 (hmap1 p0_) (wire_Put (out) (by first | assumption | omega | exact hz.2.2 | (first | omega | (have q9 : m.length ≤ z_r_seens_i.text.length + 1 := g1 ▸ markS_len z_r_seens_i; have q2 := putS_len z_r_seens_i.name (by omega); have q3 := putS_len m (by omega); (try simp only [List.length_append]); omega) | (have q4 := seensS_len hz.2.1.2; have q5 := filesS_len hz.2.2.2; have q6 := putS_len r.name (by omega); have q7 := putS_len out (by omega); have q8 := putS_len (filesS r.files) (by omega); (try simp only [List.length_append]); omega)))) trivial ?_
        intro w98 hS97
        refine WL.nil ?_
        exact ⟨rfl, _, _, rfl, (Hp.le_refl _), rfl, hS97⟩
      · intro r_ w100 h101 hl102 hS99 hb_ hp_
        obtain ⟨b0_, b1_, _⟩ := hb_
        obtain ⟨p0_, p1_, _⟩ := hp_
        have p0_ : r_ 30 = .string (B (putS r.name)) := p0_
        have p1_ : r_ 32 = .string (B (putS out)) := p1_
        refine WL.val1 (R_sadd (a := putS r.name) (b := putS out) p0_ p1_ (by (try simp only [List.length_append, List.length_cons, List.length_nil]); first | omega | (have q9 : m.length ≤ z_r_seens_i.text.length + 1 := g1 ▸ markS_len z_r_seens_i; have q2 := putS_len z_r_seens_i.name (by omega); have q3 := putS_len m (by omega); (try simp only [List.length_append]); omega) | (have q4 := seensS_len hz.2.1.2; have q5 := filesS_len hz.2.2.2; have q6 := putS_len r.name (by omega); have q7 := putS_len out (by omega); have q8 := putS_len (filesS r.files) (by omega); (try simp only [List.length_append]); omega))) ?_
        refine WL.nil ?_
        exact ⟨rfl, _, _, rfl, (Hp.le_refl _), rfl, hS99⟩
      · intro r_ w104 h105 hl106 hS103 hb_ hp_
        obtain ⟨b0_, b1_, _⟩ := hb_
        refine WL.val1 (R_fieldAddr (b := w.heap.size) (off := 0) (m := 2) b0_ (fun _ => by kernel_rfl)) ?_
        refine WL.nil ?_
        exact ⟨rfl, _, _, rfl, (Hp.le_refl _), rfl, hS103⟩
      · intro r_ w108 h109 hl110 hS107 hb_ hp_
        obtain ⟨b0_, b1_, _⟩ := hb_
        obtain ⟨p0_, _⟩ := hp_
        have p0_ : r_ 34 = .pointer (some ⟨w.heap.size, 2, none⟩) := p0_
        refine WL.val1 (R_load (v := .slice (r_a2) (r.files).length (r_c2)) p0_ (hS107.has (i := 0) rfl) (Tryd.isAgg23 _) rfl) ?_
        refine WL.nil ?_
        exact ⟨rfl, _, _, rfl, (Hp.le_refl _), rfl, hS107⟩
      · intro r_ w112 h113 hl114 hS111 hb_ hp_
        obtain ⟨b0_, b1_, _⟩ := hb_
        obtain ⟨p0_, p1_, _⟩ := hp_
        have p0_ : r_ 35 = .slice (r_a2) (r.files).length (r_c2) := p0_
        have p1_ : r_ 32 = .string (B (putS out)) := p1_
        refine S_callP (vs := [.slice (r_a2) (r.files).length (r_c2)]) hS111 Tryd.call43 (hmap1 p0_) (wire_Files (r.files) (r_a2) (r_c2) (by first | assumption | omega | exact hz.2.2 | (first | omega | (have q9 : m.length ≤ z_r_seens_i.text.length + 1 := g1 ▸ markS_len z_r_seens_i; have q2 := putS_len z_r_seens_i.name (by omega); have q3 := putS_len m (by omega); (try simp only [List.length_append]); omega) | (have q4 := seensS_len hz.2.1.2; have q5 := filesS_len hz.2.2.2; have q6 := putS_len r.name (by omega); have q7 := putS_len out (by omega); have q8 := putS_len (filesS r.files) (by omega); (try simp only [List.length_append]); omega)))) (sl_r1.mono (hl6.trans hl114)) ?_
        intro w116 hS115
        refine WL.nil ?_
        exact ⟨rfl, _, _, rfl, (Hp.le_refl _), rfl, hS115⟩
      · intro r_ w118 h119 hl120 hS117 hb_ hp_
        obtain ⟨b0_, b1_, _⟩ := hb_
        obtain ⟨p0_, p1_, _⟩ := hp_
        have p0_ : r_ 36 = .string (B (filesS r.files)) := p0_
        have p1_ : r_ 36 = .string (B (filesS r.files)) := p1_
        refine S_callP (vs := [.string (B (filesS r.files))]) hS117 Tryd.call34 (hmap1 p1_) (wire_Put (filesS r.files) (by first | assumption | omega | exact hz.2.2 | (first | omega | (have q9 : m.length ≤ z_r_seens_i.text.length + 1 := g1 ▸ markS_len z_r_seens_i; have q2 := putS_len z_r_seens_i.name (by omega); have q3 := putS_len m (by omega); (try simp only [List.length_append]); omega) | (have q4 := seensS_len hz.2.1.2; have q5 := filesS_len hz.2.2.2; have q6 := putS_len r.name (by omega); have q7 := putS_len out (by omega); have q8 := putS_len (filesS r.files) (by omega); (try simp only [List.length_append]); omega)))) trivial ?_
        intro w122 hS121
        refine WL.nil ?_
        exact ⟨rfl, _, _, rfl, (Hp.le_refl _), rfl, hS121⟩
      · intro r_ w124 h125 hl126 hS123 hb_ hf_
        obtain ⟨b0_, b1_, _⟩ := hb_
        obtain ⟨q0_, q1_, q2_, q3_, q4_, q5_, q6_, q7_, q8_, q9_, _⟩ := hf_
        refine WL.frame [(1, .pointer (some ⟨w.heap.size, 0, none⟩)), (3, .string (B (out))), (28, .pointer (some ⟨w.heap.size, 0, none⟩)), (29, .string (B (r.name))), (30, .string (B (putS r.name))), (31, .string (B (out))), (32, .string (B (putS out))), (33, .string (B ((putS r.name ++ putS out)))), (34, .pointer (some ⟨w.heap.size, 2, none⟩)), (35, .slice (r_a2) (r.files).length (r_c2)), (36, .string (B (filesS r.files))), (37, .string (B (putS (filesS r.files))))] ⟨b0_, b1_, q0_, q1_, q2_, q3_, q4_, q5_, q6_, q7_, q8_, q9_, trivial⟩ (fun r_ => ?_)
        refine WL.val1 (R_sadd (a := (putS r.name ++ putS out)) (b := putS (filesS r.files)) rfl rfl (by (try simp only [List.length_append, List.length_cons, List.length_nil]); first | omega | (have q9 : m.length ≤ z_r_seens_i.text.length + 1 := g1 ▸ markS_len z_r_seens_i; have q2 := putS_len z_r_seens_i.name (by omega); have q3 := putS_len m (by omega); (try simp only [List.length_append]); omega) | (have q4 := seensS_len hz.2.1.2; have q5 := filesS_len hz.2.2.2; have q6 := putS_len r.name (by omega); have q7 := putS_len out (by omega); have q8 := putS_len (filesS r.files) (by omega); (try simp only [List.length_append]); omega))) ?_
        refine WL.val1 (R_assign (v := .string (B (((putS r.name ++ putS out) ++ putS (filesS r.files))))) rfl) ?_
        refine WL.nil ?_
        refine then_normal ?_
        refine WC.ret ?_
        refine top_ret (.string (B (((putS r.name ++ putS out) ++ putS (filesS r.files))))) (gives1 rfl rfl) ?_
        exact ⟨(by apply congrArg Value.string; apply congrArg B; rw [textS, ← f2, drop_nil (by omega), show seensS [] = [] from rfl, List.append_nil]), (hS123.pop.weaken_h (hl6.trans hl126))⟩
set_option maxHeartbeats 400000 in
theorem rec_Encode (l : List Rec) (l_a : Option Addr) (l_c : Nat) (hz : SzL l) : PureC GG Tryd.prog 25 (fun h => Sl RRec h l l_a l_c) [.slice (l_a) (l).length (l_c)] (.tuple #[.string (B ((encS l).1)), .int .i64 ((encS l).2)]) := by
  intro Γ h L w hpre hS
  have sl_l := hpre
  have hl := hz.1
  have ht := tag_len
  refine Ret.body Tryd.func25 rfl Tryd.ntmps25 (Nat.le_of_ble_eq_true rfl) ?_
  refine WC.seq ?_
  refine WC.region ?_
  refine WL.val1 (R_assign (v := .string (B (([] : Str)))) rfl) ?_
  refine WL.val1 (R_assign (v := .int .i64 (0)) rfl) ?_
  refine WL.nil ?_
  refine then_normal ?_
  refine WC.seq ?_
  refine WC.seq ?_
  refine WC.region ?_
  refine WL.val1 (R_move (v := .slice (l_a) (l).length (l_c)) rfl) ?_
  refine S_callP (vs := [.slice (l_a) (l).length (l_c)]) hS Tryd.call33 rfl (rec_Right (l) (l_a) (l_c) (by first | assumption | decide | omega | (first | omega | (have q1 := textS_len (hz.2 z_l_i (List.mem_of_getElem? hz_l_i)); have q2 := putS_len (textS z_l_i) (by omega); (try simp only [List.length_append]); omega)))) sl_l ?_
  intro w2 hS1
  refine WL.val1 (R_not (b := rgtS l) rfl) ?_
  refine WL.nil ?_
  refine then_normal ?_
  refine WC.condI (¬ ((rgtS l) = true)) (b := (!(rgtS l))) rfl (b_not Iff.rfl) (fun c0 => ?_) (fun c0 => ?_)
  · skip
    refine WC.seq ?_
    refine WC.region ?_
    refine WL.val1 (R_assign (v := .string (B (([] : Str)))) rfl) ?_
    refine WL.val1 (R_assign (v := .int .i64 (5)) rfl) ?_
    refine WL.nil ?_
    refine then_normal ?_
    refine WC.ret ?_
    refine then_ret ?_
    refine top_ret (.tuple #[.string (B (([] : Str))), .int .i64 (5)]) (gives2 rfl rfl rfl) ?_
    have e_ : encS l = ([], 5) := by rw [encS, if_neg c0]
    exact ⟨(by first | rfl | (rw [e_]; done) | (rw [e_]; rfl) | (simp; done)), hS1⟩
  · skip
    refine WC.skip ?_
    refine then_normal ?_
    refine WC.seq ?_
    refine WC.region ?_
    refine S_callP (vs := [.string (B (([115, 116, 101, 116, 49] : Str)))]) hS1 Tryd.call34 rfl (wire_Put (([115, 116, 101, 116, 49] : Str)) (by first | assumption | decide | omega | (first | omega | (have q1 := textS_len (hz.2 z_l_i (List.mem_of_getElem? hz_l_i)); have q2 := putS_len (textS z_l_i) (by omega); (try simp only [List.length_append]); omega)))) trivial ?_
    intro w4 hS3
    refine WL.val1 (R_assign (v := .string (B (putS (([115, 116, 101, 116, 49] : Str))))) rfl) ?_
    refine WL.nil ?_
    refine then_normal ?_
    refine WC.seq ?_
    refine WC.seq ?_
    refine WC.region ?_
    refine WL.val1 (R_move (v := .slice (l_a) (l).length (l_c)) rfl) ?_
    refine WL.val1 (R_len_slice (n := (l).length) rfl Tryd.underlying22) ?_
    refine WL.val1 (R_move (v := .int .i64 (0)) rfl) ?_
    refine WL.nil ?_
    refine then_normal ?_
    refine WC.block ?_
    refine WC.loopL (σ := Nat × Str)
      (fun (q_ : Nat × Str) => (fun (i : Nat) (out : Str) => [(4, .string (B (out))), (11, .slice (l_a) (l).length (l_c)), (12, .int .i64 ((((l).length : Nat) : Int))), (13, .int .i64 (((i : Nat) : Int)))]) (q_.1) (q_.2))
      (fun (q_ : Nat × Str) (w_ : World) => (fun (i : Nat) (out : Str) => ∃ h7 : Hp, h.le h7 ∧ St Γ h7 (L) w_ ∧ (i ≤ l.length) ∧ (out ++ recsS (l.drop i) = putS tag ++ recsS l) ∧ (out.length ≤ 20 + i * 5000100)) (q_.1) (q_.2))
      (fun (q_ : Nat × Str) => (fun (i : Nat) (out : Str) => l.length - i) (q_.1) (q_.2)) (0, putS tag) ?_ ?_ ?_
    · exact ⟨(by first | rfl | (apply congrArg (Value.int .i64); omega) | simp), rfl, rfl, (by first | rfl | (apply congrArg (Value.int .i64); omega) | simp), trivial⟩
    · exact ⟨h, Hp.le_refl _, hS3, (by first | assumption | omega | simp), (by rfl), (by first | assumption | omega | simp)⟩
    · rintro ⟨i, out⟩ r9 w6 ⟨h7, hl8, hS5, f1, f2, f3⟩
      try dsimp only at f1 f2 f3
      refine WC.seq ?_
      refine WC.region ?_
      refine WL.val1 (R_lss (a := ((i : Nat) : Int)) (b := (((l).length : Nat) : Int)) rfl rfl) ?_
      refine WL.nil ?_
      refine then_normal ?_
      refine WC.seq ?_
      refine WC.condP (((i : Nat) : Int) < (((l).length : Nat) : Int)) rfl (fun c1 => ?_) (fun c1 => ?_)
      · skip
        refine WC.skip ?_
        refine then_normal ?_
        refine WC.seq ?_
        refine WC.block ?_
        refine WC.seq ?_
        refine WC.region ?_
        obtain ⟨z_l_i, hz_l_i⟩ : ∃ z, (l)[i]? = some z := ⟨_, List.getElem?_eq_getElem (by first | omega | (have q1 := textS_len (hz.2 z_l_i (List.mem_of_getElem? hz_l_i)); have q2 := putS_len (textS z_l_i) (by omega); (try simp only [List.length_append]); omega))⟩
        obtain ⟨b10, o11, cs15, ha12, hr13, hat14⟩ := (sl_l.mono hl8).2 i z_l_i hz_l_i
        obtain ⟨a16, c17, a18, c19, rfl, hs20, hs21⟩ := hr13
        have hb_l_i := hz.2 z_l_i (List.mem_of_getElem? hz_l_i)
        refine WL.val1 (R_indexAddrE (i := ((i : Nat) : Int)) (m := i) ha12 rfl rfl Tryd.underlying22 (Tryd.sizeOf35 _) (by first | rfl | (first | omega | (have q1 := textS_len (hz.2 z_l_i (List.mem_of_getElem? hz_l_i)); have q2 := putS_len (textS z_l_i) (by omega); (try simp only [List.length_append]); omega))) (by first | omega | (have q1 := textS_len (hz.2 z_l_i (List.mem_of_getElem? hz_l_i)); have q2 := putS_len (textS z_l_i) (by omega); (try simp only [List.length_append]); omega))) ?_
        refine WL.val1 (R_loadCA (cs := [.string (B (z_l_i.name)), .slice (a16) (z_l_i.seens).length (c17), .slice (a18) (z_l_i.files).length (c19)]) hS5 rfl hat14 Tryd.isAgg35 Tryd.sizeOf35 rfl) ?_
        refine S_alloc hS5 Tryd.zeroValue35 ?_
        intro w23 hS22
        refine S_store (i := 0) (b := w6.heap.size) (l := [.string (B (([] : Str))), .slice none 0 0, .slice none 0 0]) (l' := [.string (B (z_l_i.name)), .slice (a16) (z_l_i.seens).length (c17), .slice (a18) (z_l_i.files).length (c19)]) (vs := [.string (B (z_l_i.name)), .slice (a16) (z_l_i.seens).length (c17), .slice (a18) (z_l_i.files).length (c19)]) (v := .agg #[.string (B (z_l_i.name)), .slice (a16) (z_l_i.seens).length (c17), .slice (a18) (z_l_i.files).length (c19)]) hS22 rfl rfl rfl Tryd.sizeOf35 rfl rfl rfl (Nat.le_of_ble_eq_true rfl) rfl rfl ?_
        intro w25 hS24
        refine WL.nil ?_
        refine then_normal ?_
        refine WC.region ?_
        refine WL.val1 (R_move (v := .string (B (out))) rfl) ?_
        refine WL.val1 (R_loadA (cs := [.string (B (z_l_i.name)), .slice (a16) (z_l_i.seens).length (c17), .slice (a18) (z_l_i.files).length (c19)]) rfl (hS24.has (i := 0) rfl) (Tryd.isAgg35 _) (Tryd.sizeOf35 _) rfl (sub_cells rfl)) ?_
        refine S_callP (vs := [.agg #[.string (B (z_l_i.name)), .slice (a16) (z_l_i.seens).length (c17), .slice (a18) (z_l_i.files).length (c19)]]) hS24 Tryd.call35 rfl (rec_text (z_l_i) (a16) (c17) (a18) (c19) (by first | assumption | decide | omega | (first | omega | (have q1 := textS_len (hz.2 z_l_i (List.mem_of_getElem? hz_l_i)); have q2 := putS_len (textS z_l_i) (by omega); (try simp only [List.length_append]); omega)))) ⟨hs20, hs21⟩ ?_
        intro w27 hS26
        refine S_callP (vs := [.string (B (textS z_l_i))]) hS26 Tryd.call34 rfl (wire_Put (textS z_l_i) (by first | assumption | decide | omega | (first | omega | (have q1 := textS_len (hz.2 z_l_i (List.mem_of_getElem? hz_l_i)); have q2 := putS_len (textS z_l_i) (by omega); (try simp only [List.length_append]); omega)))) trivial ?_
        intro w29 hS28
        refine WL.val1 (R_sadd (a := out) (b := putS (textS z_l_i)) rfl rfl (by (try simp only [List.length_append, List.length_cons, List.length_nil]); first | omega | (have q1 := textS_len (hz.2 z_l_i (List.mem_of_getElem? hz_l_i)); have q2 := putS_len (textS z_l_i) (by omega); (try simp only [List.length_append]); omega))) ?_
        refine WL.val1 (R_assign (v := .string (B ((out ++ putS (textS z_l_i))))) rfl) ?_
        refine WL.nil ?_
        refine block_normal ?_
        refine then_normal ?_
        refine WC.region ?_
        refine WL.val1 (R_add_i (a := ((i : Nat) : Int)) (b := 1) rfl rfl (by first | omega | (have q1 := textS_len (hz.2 z_l_i (List.mem_of_getElem? hz_l_i)); have q2 := putS_len (textS z_l_i) (by omega); (try simp only [List.length_append]); omega))) ?_
        refine WL.val1 (R_move (v := .int .i64 ((((i : Nat) : Int) + 1))) rfl) ?_
        refine WL.nil ?_
        refine then_normal ?_
        exact ⟨(i + 1, (out ++ putS (textS z_l_i))), ⟨(by first | rfl | (apply congrArg (Value.int .i64); omega) | simp), rfl, rfl, (by first | rfl | (apply congrArg (Value.int .i64); omega) | simp), trivial⟩, ⟨h7, hl8, hS28.pop, (by (try dsimp only); first | assumption | omega | simp), (by (try dsimp only); rw [← f2, recsS_step hz_l_i]; (try simp only [List.append_assoc])), (by (try dsimp only); first | omega | (have q1 := textS_len (hz.2 z_l_i (List.mem_of_getElem? hz_l_i)); have q2 := putS_len (textS z_l_i) (by omega); (try simp only [List.length_append]); omega))⟩, (by first | (simp only []; omega) | (simp; omega))⟩
      · skip
        refine WC.exit ?_
        refine then_exit ?_
        refine then_exit ?_
        refine block_exit ?_
        refine then_normal ?_
        refine WC.seq ?_
        refine WC.region ?_
        refine WL.val1 (R_move (v := .string (B (out))) rfl) ?_
        refine WL.val1 (R_assign (v := .string (B (out))) rfl) ?_
        refine WL.val1 (R_assign (v := .int .i64 (0)) rfl) ?_
        refine WL.nil ?_
        refine then_normal ?_
        refine WC.ret ?_
        refine top_ret (.tuple #[.string (B (out)), .int .i64 (0)]) (gives2 rfl rfl rfl) ?_
        have e_ : encS l = (out, 0) := by rw [encS, if_pos (by simpa using c0), ← f2, drop_nil (by omega), show recsS [] = [] from rfl, List.append_nil]
        exact ⟨(by first | rfl | (rw [e_]; done) | (rw [e_]; rfl) | (simp; done)), (hS5.weaken_h hl8)⟩
end Go.Stet
