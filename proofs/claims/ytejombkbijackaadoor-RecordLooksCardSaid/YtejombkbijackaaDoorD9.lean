/- A part of the proof engine: rules for steps of the machine over frames and memory. Each under the conditions that its own statement names. -/
import Derived.Test.YtejombkbijackaaDoorSeatD2
import Derived.Test.YtejombkbijackaaDoorBldD
import Derived.Test.YtejombkbijackaaDoorEng15
import Derived.Test.YtejombkbijackaaDoorSpec12
import Derived.Test.YtejombkbijackaaDoorD8
set_option linter.all false
set_option linter.unusedSimpArgs false
set_option linter.unusedVariables false
namespace Go.Stet
open Go Go.Eng Go.Proofs
set_option maxHeartbeats 400000 in
theorem rec_may (r : Rec) (r_a1 : Option Addr) (r_c1 : Nat) (r_a2 : Option Addr) (r_c2 : Nat) (hz : SzR r) : PureC GG Tryd.prog 41 (fun h => Sl RSeen h r.seens r_a1 r_c1 ∧ Sl RFile h r.files r_a2 r_c2) [.agg #[.string (B (r.name)), .slice (r_a1) (r.seens).length (r_c1), .slice (r_a2) (r.files).length (r_c2)]] (.bool (mayS r)) := by
  intro Γ h L w hpre hS
  obtain ⟨sl_r0, sl_r1⟩ := hpre
  have hl := hz.2.1.1
  have hf1 := hz.2.2.1
  refine Ret.body Tryd.func41 rfl Tryd.ntmps41 (Nat.le_of_ble_eq_true rfl) ?_
  refine WC.seq ?_
  refine WC.region ?_
  refine S_box (l := [.string (B (r.name)), .slice (r_a1) (r.seens).length (r_c1), .slice (r_a2) (r.files).length (r_c2)]) (v := .agg #[.string (B (r.name)), .slice (r_a1) (r.seens).length (r_c1), .slice (r_a2) (r.files).length (r_c2)]) hS rfl rfl ?_
  intro w2 hS1
  refine WL.val1 (R_assign (v := .bool (false)) rfl) ?_
  refine WL.nil ?_
  refine then_normal ?_
  refine WC.seq ?_
  refine WC.region ?_
  refine S_makeMap hS1 ?_
  intro w4 hS3
  refine WL.val1 (R_assign (v := .map (some (w2.heap.size))) rfl) ?_
  refine WL.nil ?_
  refine then_normal ?_
  refine WC.seq ?_
  refine WC.seq ?_
  refine WC.region ?_
  refine WL.val1 (R_fieldAddr (b := w.heap.size) (off := 0) (m := 1) rfl (fun _ => by kernel_rfl)) ?_
  refine WL.val1 (R_load (v := .slice (r_a1) (r.seens).length (r_c1)) rfl (hS3.has (i := 1) rfl) (Tryd.isAgg30 _) rfl) ?_
  refine WL.val1 (R_len_slice (n := (r.seens).length) rfl Tryd.underlying30) ?_
  refine WL.val1 (R_move (v := .int .i64 (0)) rfl) ?_
  refine WL.nil ?_
  refine then_normal ?_
  refine WC.block ?_
  refine WC.loopL (σ := Nat × (Str → Int))
    (fun (q_ : Nat × (Str → Int)) => (fun (i : Nat) (f : Str → Int) => [(1, .pointer (some ⟨w.heap.size, 0, none⟩)), (3, .map (some (w2.heap.size))), (8, .slice (r_a1) (r.seens).length (r_c1)), (9, .int .i64 ((((r.seens).length : Nat) : Int))), (10, .int .i64 (((i : Nat) : Int)))]) (q_.1) (q_.2))
    (fun (q_ : Nat × (Str → Int)) (w_ : World) => (fun (i : Nat) (f : Str → Int) => ∃ h7 : Hp, h.le h7 ∧ St Γ h7 (mpI (w2.heap.size) (f) :: row (w.heap.size) [.string (B (r.name)), .slice (r_a1) (r.seens).length (r_c1), .slice (r_a2) (r.files).length (r_c2)] 35 :: L) w_ ∧ (i ≤ r.seens.length) ∧ (mayF (r.seens.take i) (r.seens.drop i) = mayF [] r.seens) ∧ (∀ k, f k = cnt (dupS k (r.seens.take i)))) (q_.1) (q_.2))
    (fun (q_ : Nat × (Str → Int)) => (fun (i : Nat) (f : Str → Int) => r.seens.length - i) (q_.1) (q_.2)) (0, (fun _ => 0)) ?_ ?_ ?_
  · exact ⟨rfl, rfl, rfl, rfl, (by first | rfl | (apply congrArg (Value.int .i64); omega) | simp), trivial⟩
  · exact ⟨h, Hp.le_refl _, hS3, (by first | assumption | omega | simp), (by rfl), (by exact fun k => by rw [dupS_zero]; rfl)⟩
  · rintro ⟨i, f⟩ r9 w6 ⟨h7, hl8, hS5, f1, f2, f3⟩
    try dsimp only at f1 f2 f3
    refine WC.seq ?_
    refine WC.region ?_
    refine WL.val1 (R_lss (a := ((i : Nat) : Int)) (b := (((r.seens).length : Nat) : Int)) rfl rfl) ?_
    refine WL.nil ?_
    refine then_normal ?_
    refine WC.seq ?_
    refine WC.condP (((i : Nat) : Int) < (((r.seens).length : Nat) : Int)) rfl (fun c0 => ?_) (fun c0 => ?_)
    · skip
      refine WC.skip ?_
      refine then_normal ?_
      refine WC.seq ?_
      refine WC.block ?_
      refine WC.seq ?_
      refine WC.region ?_
      obtain ⟨z_r_seens_i, hz_r_seens_i⟩ : ∃ z, (r.seens)[i]? = some z := ⟨_, List.getElem?_eq_getElem (by omega)⟩
      obtain ⟨b10, o11, cs15, ha12, hr13, hat14⟩ := (sl_r0.mono hl8).2 i z_r_seens_i hz_r_seens_i
      subst hr13
      refine WL.val1 (R_indexAddrE (i := ((i : Nat) : Int)) (m := i) ha12 rfl rfl Tryd.underlying30 (Tryd.sizeOf51 _) (by first | rfl | (omega)) (by omega)) ?_
      refine WL.val1 (R_loadCA (cs := [.string (B (z_r_seens_i.name)), .bool (z_r_seens_i.there), .string (B (z_r_seens_i.text))]) hS5 rfl hat14 Tryd.isAgg51 Tryd.sizeOf51 rfl) ?_
      refine S_alloc hS5 Tryd.zeroValue51 ?_
      intro w17 hS16
      refine S_store (i := 0) (b := w6.heap.size) (l := [.string (B (([] : Str))), .bool (false), .string (B (([] : Str)))]) (l' := [.string (B (z_r_seens_i.name)), .bool (z_r_seens_i.there), .string (B (z_r_seens_i.text))]) (vs := [.string (B (z_r_seens_i.name)), .bool (z_r_seens_i.there), .string (B (z_r_seens_i.text))]) (v := .agg #[.string (B (z_r_seens_i.name)), .bool (z_r_seens_i.there), .string (B (z_r_seens_i.text))]) hS16 rfl rfl rfl Tryd.sizeOf51 rfl rfl rfl (Nat.le_of_ble_eq_true rfl) rfl rfl ?_
      intro w19 hS18
      refine WL.nil ?_
      refine then_normal ?_
      refine WC.seq ?_
      refine WC.region ?_
      refine WL.val1 (R_move (v := .map (some (w2.heap.size))) rfl) ?_
      refine WL.val1 (R_fieldAddr (b := w6.heap.size) (off := 0) (m := 0) rfl (fun _ => by kernel_rfl)) ?_
      refine WL.val1 (R_load (v := .string (B (z_r_seens_i.name))) rfl (hS18.has (i := 0) rfl) (Tryd.isAgg9 _) rfl) ?_
      refine S_lookup (i := 1) (b := w2.heap.size) (f := f) (k := z_r_seens_i.name) hS18 rfl rfl rfl Tryd.underlying87 Tryd.underlying9 (fun _ => by kernel_rfl) ?_
      have hl1 : f z_r_seens_i.name = cnt (dupS z_r_seens_i.name (r.seens.take i)) := f3 z_r_seens_i.name
      have hl2 := cnt_rng (dupS z_r_seens_i.name (r.seens.take i))
      refine WL.val1 (R_add_i (a := (f z_r_seens_i.name)) (b := 1) rfl rfl (by omega)) ?_
      refine S_mapUpdate (i := 1) (b := w2.heap.size) (f := f) (k := z_r_seens_i.name) (v := ((f z_r_seens_i.name) + 1)) hS18 rfl rfl rfl rfl Tryd.underlying87 Tryd.underlying9 rfl ?_
      intro w21 hS20
      refine WL.nil ?_
      refine then_normal ?_
      refine WC.seq ?_
      refine WC.region ?_
      refine WL.val1 (R_move (v := .map (some (w2.heap.size))) rfl) ?_
      refine WL.val1 (R_fieldAddr (b := w6.heap.size) (off := 0) (m := 0) rfl (fun _ => by kernel_rfl)) ?_
      refine WL.val1 (R_load (v := .string (B (z_r_seens_i.name))) rfl (hS20.has (i := 0) rfl) (Tryd.isAgg9 _) rfl) ?_
      refine S_lookup (i := 1) (b := w2.heap.size) (f := fput (f) z_r_seens_i.name (((f z_r_seens_i.name) + 1))) (k := z_r_seens_i.name) hS20 rfl rfl rfl Tryd.underlying87 Tryd.underlying9 (fun _ => by kernel_rfl) ?_
      have hl3 := fput_same f z_r_seens_i.name (f z_r_seens_i.name + 1)
      refine WL.val1 (R_gtr (a := ((fput (f) z_r_seens_i.name (((f z_r_seens_i.name) + 1))) z_r_seens_i.name)) (b := 1) rfl rfl) ?_
      refine WL.val1 (R_move (v := .bool (decide (1 < ((fput (f) z_r_seens_i.name (((f z_r_seens_i.name) + 1))) z_r_seens_i.name)))) rfl) ?_
      refine WL.gpure (gd := (!(decide (1 < ((fput (f) z_r_seens_i.name (((f z_r_seens_i.name) + 1))) z_r_seens_i.name))))) (yl_f (d := 24) rfl rfl) (fun hg => R_fieldAddr (b := w6.heap.size) (off := 0) (m := 0) rfl (fun _ => by kernel_rfl)) ?_
      refine WL.gpure (gd := (!(decide (1 < ((fput (f) z_r_seens_i.name (((f z_r_seens_i.name) + 1))) z_r_seens_i.name))))) (yl_f (d := 24) rfl rfl) (fun hg => R_load (v := .string (B (z_r_seens_i.name))) (gvT hg rfl) (hS20.has (i := 0) rfl) (Tryd.isAgg9 _) rfl) ?_
      refine WL.gpure (gd := (!(decide (1 < ((fput (f) z_r_seens_i.name (((f z_r_seens_i.name) + 1))) z_r_seens_i.name))))) (yl_f (d := 24) rfl rfl) (fun hg => R_seql (a := z_r_seens_i.name) (b := ([] : Str)) (gvT hg rfl) rfl) ?_
      refine WL.val1 (R_or (cb := decide (1 < ((fput (f) z_r_seens_i.name (((f z_r_seens_i.name) + 1))) z_r_seens_i.name))) (yb := decide (z_r_seens_i.name = ([] : Str))) rfl rfl rfl) ?_
      refine WL.val1 (R_move (v := .bool ((decide (1 < ((fput (f) z_r_seens_i.name (((f z_r_seens_i.name) + 1))) z_r_seens_i.name)) || decide (z_r_seens_i.name = ([] : Str))))) rfl) ?_
      refine WL.gpure (gd := (!((decide (1 < ((fput (f) z_r_seens_i.name (((f z_r_seens_i.name) + 1))) z_r_seens_i.name)) || decide (z_r_seens_i.name = ([] : Str)))))) (yl_f (d := 29) rfl rfl) (fun hg => R_fieldAddr (b := w6.heap.size) (off := 0) (m := 0) rfl (fun _ => by kernel_rfl)) ?_
      refine WL.gpure (gd := (!((decide (1 < ((fput (f) z_r_seens_i.name (((f z_r_seens_i.name) + 1))) z_r_seens_i.name)) || decide (z_r_seens_i.name = ([] : Str)))))) (yl_f (d := 29) rfl rfl) (fun hg => R_load (v := .string (B (z_r_seens_i.name))) (gvT hg rfl) (hS20.has (i := 0) rfl) (Tryd.isAgg9 _) rfl) ?_
      refine WL.gpure (gd := (!((decide (1 < ((fput (f) z_r_seens_i.name (((f z_r_seens_i.name) + 1))) z_r_seens_i.name)) || decide (z_r_seens_i.name = ([] : Str)))))) (yl_f (d := 29) rfl rfl) (fun hg => R_slen (a := z_r_seens_i.name) (gvT hg rfl) Tryd.underlying9) ?_
      refine WL.gpure (gd := (!((decide (1 < ((fput (f) z_r_seens_i.name (((f z_r_seens_i.name) + 1))) z_r_seens_i.name)) || decide (z_r_seens_i.name = ([] : Str)))))) (yl_f (d := 29) rfl rfl) (fun hg => R_gtr (a := (((z_r_seens_i.name).length : Nat) : Int)) (b := 100) (gvT hg rfl) rfl) ?_
      refine WL.val1 (R_or (cb := (decide (1 < ((fput (f) z_r_seens_i.name (((f z_r_seens_i.name) + 1))) z_r_seens_i.name)) || decide (z_r_seens_i.name = ([] : Str)))) (yb := decide (100 < (((z_r_seens_i.name).length : Nat) : Int))) rfl rfl rfl) ?_
      refine WL.val1 (R_move (v := .bool (((decide (1 < ((fput (f) z_r_seens_i.name (((f z_r_seens_i.name) + 1))) z_r_seens_i.name)) || decide (z_r_seens_i.name = ([] : Str))) || decide (100 < (((z_r_seens_i.name).length : Nat) : Int))))) rfl) ?_
      refine WL.gpure (gd := (!(((decide (1 < ((fput (f) z_r_seens_i.name (((f z_r_seens_i.name) + 1))) z_r_seens_i.name)) || decide (z_r_seens_i.name = ([] : Str))) || decide (100 < (((z_r_seens_i.name).length : Nat) : Int)))))) (yl_f (d := 35) rfl rfl) (fun hg => R_fieldAddr (b := w6.heap.size) (off := 0) (m := 2) rfl (fun _ => by kernel_rfl)) ?_
      refine WL.gpure (gd := (!(((decide (1 < ((fput (f) z_r_seens_i.name (((f z_r_seens_i.name) + 1))) z_r_seens_i.name)) || decide (z_r_seens_i.name = ([] : Str))) || decide (100 < (((z_r_seens_i.name).length : Nat) : Int)))))) (yl_f (d := 35) rfl rfl) (fun hg => R_load (v := .string (B (z_r_seens_i.text))) (gvT hg rfl) (hS20.has (i := 0) rfl) (Tryd.isAgg9 _) rfl) ?_
      refine WL.gpure (gd := (!(((decide (1 < ((fput (f) z_r_seens_i.name (((f z_r_seens_i.name) + 1))) z_r_seens_i.name)) || decide (z_r_seens_i.name = ([] : Str))) || decide (100 < (((z_r_seens_i.name).length : Nat) : Int)))))) (yl_f (d := 35) rfl rfl) (fun hg => R_slen (a := z_r_seens_i.text) (gvT hg rfl) Tryd.underlying9) ?_
      refine WL.gpure (gd := (!(((decide (1 < ((fput (f) z_r_seens_i.name (((f z_r_seens_i.name) + 1))) z_r_seens_i.name)) || decide (z_r_seens_i.name = ([] : Str))) || decide (100 < (((z_r_seens_i.name).length : Nat) : Int)))))) (yl_f (d := 35) rfl rfl) (fun hg => R_gtr (a := (((z_r_seens_i.text).length : Nat) : Int)) (b := 4000) (gvT hg rfl) rfl) ?_
      refine WL.val1 (R_or (cb := ((decide (1 < ((fput (f) z_r_seens_i.name (((f z_r_seens_i.name) + 1))) z_r_seens_i.name)) || decide (z_r_seens_i.name = ([] : Str))) || decide (100 < (((z_r_seens_i.name).length : Nat) : Int)))) (yb := decide (4000 < (((z_r_seens_i.text).length : Nat) : Int))) rfl rfl rfl) ?_
      refine WL.val1 (R_move (v := .bool ((((decide (1 < ((fput (f) z_r_seens_i.name (((f z_r_seens_i.name) + 1))) z_r_seens_i.name)) || decide (z_r_seens_i.name = ([] : Str))) || decide (100 < (((z_r_seens_i.name).length : Nat) : Int))) || decide (4000 < (((z_r_seens_i.text).length : Nat) : Int))))) rfl) ?_
      refine WL.gpure (gd := (!((((decide (1 < ((fput (f) z_r_seens_i.name (((f z_r_seens_i.name) + 1))) z_r_seens_i.name)) || decide (z_r_seens_i.name = ([] : Str))) || decide (100 < (((z_r_seens_i.name).length : Nat) : Int))) || decide (4000 < (((z_r_seens_i.text).length : Nat) : Int)))))) (yl_f (d := 41) rfl rfl) (fun hg => R_fieldAddr (b := w6.heap.size) (off := 0) (m := 1) rfl (fun _ => by kernel_rfl)) ?_
      refine WL.gpure (gd := (!((((decide (1 < ((fput (f) z_r_seens_i.name (((f z_r_seens_i.name) + 1))) z_r_seens_i.name)) || decide (z_r_seens_i.name = ([] : Str))) || decide (100 < (((z_r_seens_i.name).length : Nat) : Int))) || decide (4000 < (((z_r_seens_i.text).length : Nat) : Int)))))) (yl_f (d := 41) rfl rfl) (fun hg => R_load (v := .bool (z_r_seens_i.there)) (gvT hg rfl) (hS20.has (i := 0) rfl) (Tryd.isAgg4 _) rfl) ?_
      refine WL.gpure (gd := (!((((decide (1 < ((fput (f) z_r_seens_i.name (((f z_r_seens_i.name) + 1))) z_r_seens_i.name)) || decide (z_r_seens_i.name = ([] : Str))) || decide (100 < (((z_r_seens_i.name).length : Nat) : Int))) || decide (4000 < (((z_r_seens_i.text).length : Nat) : Int)))))) (yl_f (d := 41) rfl rfl) (fun hg => R_not (b := z_r_seens_i.there) (gvT hg rfl)) ?_
      refine WL.gpure (gd := (!((((decide (1 < ((fput (f) z_r_seens_i.name (((f z_r_seens_i.name) + 1))) z_r_seens_i.name)) || decide (z_r_seens_i.name = ([] : Str))) || decide (100 < (((z_r_seens_i.name).length : Nat) : Int))) || decide (4000 < (((z_r_seens_i.text).length : Nat) : Int)))))) (yl_f (d := 41) rfl rfl) (fun hg => R_move (v := .bool ((!(z_r_seens_i.there)))) (gvT hg rfl)) ?_
      refine WL.gpure (gd := (((!((((decide (1 < ((fput (f) z_r_seens_i.name (((f z_r_seens_i.name) + 1))) z_r_seens_i.name)) || decide (z_r_seens_i.name = ([] : Str))) || decide (100 < (((z_r_seens_i.name).length : Nat) : Int))) || decide (4000 < (((z_r_seens_i.text).length : Nat) : Int)))))) && ((!(z_r_seens_i.there))))) (ylg_t (d := 45) rfl rfl) (fun hg => R_fieldAddr (b := w6.heap.size) (off := 0) (m := 2) rfl (fun _ => by kernel_rfl)) ?_
      refine WL.gpure (gd := (((!((((decide (1 < ((fput (f) z_r_seens_i.name (((f z_r_seens_i.name) + 1))) z_r_seens_i.name)) || decide (z_r_seens_i.name = ([] : Str))) || decide (100 < (((z_r_seens_i.name).length : Nat) : Int))) || decide (4000 < (((z_r_seens_i.text).length : Nat) : Int)))))) && ((!(z_r_seens_i.there))))) (ylg_t (d := 45) rfl rfl) (fun hg => R_load (v := .string (B (z_r_seens_i.text))) (gvT hg rfl) (hS20.has (i := 0) rfl) (Tryd.isAgg9 _) rfl) ?_
      refine WL.gpure (gd := (((!((((decide (1 < ((fput (f) z_r_seens_i.name (((f z_r_seens_i.name) + 1))) z_r_seens_i.name)) || decide (z_r_seens_i.name = ([] : Str))) || decide (100 < (((z_r_seens_i.name).length : Nat) : Int))) || decide (4000 < (((z_r_seens_i.text).length : Nat) : Int)))))) && ((!(z_r_seens_i.there))))) (ylg_t (d := 45) rfl rfl) (fun hg => R_sneq (a := z_r_seens_i.text) (b := ([] : Str)) (gvT hg rfl) rfl) ?_
      refine WL.gpure (gd := (!((((decide (1 < ((fput (f) z_r_seens_i.name (((f z_r_seens_i.name) + 1))) z_r_seens_i.name)) || decide (z_r_seens_i.name = ([] : Str))) || decide (100 < (((z_r_seens_i.name).length : Nat) : Int))) || decide (4000 < (((z_r_seens_i.text).length : Nat) : Int)))))) (yl_f (d := 41) rfl rfl) (fun hg => R_and (cb := (!(z_r_seens_i.there))) (yb := decide (z_r_seens_i.text ≠ ([] : Str))) (gvT hg rfl) (gvA hg rfl) rfl) ?_
      refine WL.val1 (R_or (cb := (((decide (1 < ((fput (f) z_r_seens_i.name (((f z_r_seens_i.name) + 1))) z_r_seens_i.name)) || decide (z_r_seens_i.name = ([] : Str))) || decide (100 < (((z_r_seens_i.name).length : Nat) : Int))) || decide (4000 < (((z_r_seens_i.text).length : Nat) : Int)))) (yb := ((!(z_r_seens_i.there)) && decide (z_r_seens_i.text ≠ ([] : Str)))) rfl rfl rfl) ?_
      refine WL.nil ?_
      refine then_normal ?_
      refine WC.condI (((((1 < ((fput (f) z_r_seens_i.name (((f z_r_seens_i.name) + 1))) z_r_seens_i.name) ∨ z_r_seens_i.name = ([] : Str)) ∨ 100 < (((z_r_seens_i.name).length : Nat) : Int)) ∨ 4000 < (((z_r_seens_i.text).length : Nat) : Int)) ∨ (¬ ((z_r_seens_i.there) = true) ∧ z_r_seens_i.text ≠ ([] : Str)))) (b := ((((decide (1 < ((fput (f) z_r_seens_i.name (((f z_r_seens_i.name) + 1))) z_r_seens_i.name)) || decide (z_r_seens_i.name = ([] : Str))) || decide (100 < (((z_r_seens_i.name).length : Nat) : Int))) || decide (4000 < (((z_r_seens_i.text).length : Nat) : Int))) || ((!(z_r_seens_i.there)) && decide (z_r_seens_i.text ≠ ([] : Str))))) rfl (b_or (b_or (b_or (b_or b_dec b_dec) b_dec) b_dec) (b_and (b_not Iff.rfl) b_dec)) (fun c1 => ?_) (fun c1 => ?_)
      · skip
        refine WC.seq ?_
        refine WC.region ?_
        refine WL.val1 (R_assign (v := .bool (false)) rfl) ?_
        refine WL.nil ?_
        refine then_normal ?_
        refine WC.ret ?_
        refine block_ret ?_
        refine then_ret ?_
        refine then_ret ?_
        refine block_ret ?_
        refine then_ret ?_
        refine top_ret (.bool (false)) (gives1 rfl rfl) ?_
        exact ⟨(by apply congrArg Value.bool; rw [mayS, ← f2, mayF_no hz_r_seens_i ((recSeen_c hl1 hl3).1 c1)]; rfl), (hS20.pop.pop.pop.weaken_h hl8)⟩
      · skip
        refine WC.skip ?_
        refine block_normal ?_
        refine then_normal ?_
        refine WC.region ?_
        refine WL.val1 (R_add_i (a := ((i : Nat) : Int)) (b := 1) rfl rfl (by omega)) ?_
        refine WL.val1 (R_move (v := .int .i64 ((((i : Nat) : Int) + 1))) rfl) ?_
        refine WL.nil ?_
        refine then_normal ?_
        exact ⟨(i + 1, (fput (f) z_r_seens_i.name (((f z_r_seens_i.name) + 1)))), ⟨rfl, rfl, rfl, rfl, (by first | rfl | (apply congrArg (Value.int .i64); omega) | simp), trivial⟩, ⟨h7, hl8, hS20.pop, (by (try dsimp only); first | assumption | omega | simp), (by (try dsimp only); rw [← f2]; have c2 := not_or.1 (mt (recSeen_c hl1 hl3).2 c1); exact (mayF_yes hz_r_seens_i (bool_no c2.1) (by cases hh : okSeen z_r_seens_i; exact absurd hh c2.2; rfl)).symm), (by (try dsimp only); have c2 := not_or.1 (mt (recSeen_c hl1 hl3).2 c1); exact cnt_step hz_r_seens_i f3 (bool_no c2.1))⟩, (by first | (simp only []; omega) | (simp; omega))⟩
    · skip
      refine WC.exit ?_
      refine then_exit ?_
      refine then_exit ?_
      refine block_exit ?_
      refine then_normal ?_
      refine WC.seq ?_
      refine WC.region ?_
      refine WL.val1 (R_fieldAddr (b := w.heap.size) (off := 0) (m := 0) rfl (fun _ => by kernel_rfl)) ?_
      refine WL.val1 (R_load (v := .string (B (r.name))) rfl (hS5.has (i := 1) rfl) (Tryd.isAgg9 _) rfl) ?_
      refine WL.val1 (R_sneq (a := r.name) (b := ([] : Str)) rfl rfl) ?_
      refine WL.val1 (R_move (v := .bool (decide (r.name ≠ ([] : Str)))) rfl) ?_
      refine WL.gpure (gd := decide (r.name ≠ ([] : Str))) (yl_t (d := 55) rfl rfl) (fun hg => R_fieldAddr (b := w.heap.size) (off := 0) (m := 0) rfl (fun _ => by kernel_rfl)) ?_
      refine WL.gpure (gd := decide (r.name ≠ ([] : Str))) (yl_t (d := 55) rfl rfl) (fun hg => R_load (v := .string (B (r.name))) (gvT hg rfl) (hS5.has (i := 1) rfl) (Tryd.isAgg9 _) rfl) ?_
      refine WL.gpure (gd := decide (r.name ≠ ([] : Str))) (yl_t (d := 55) rfl rfl) (fun hg => R_slen (a := r.name) (gvT hg rfl) Tryd.underlying9) ?_
      refine WL.gpure (gd := decide (r.name ≠ ([] : Str))) (yl_t (d := 55) rfl rfl) (fun hg => R_leq (a := (((r.name).length : Nat) : Int)) (b := 60) (gvT hg rfl) rfl) ?_
      refine WL.val1 (R_and (cb := decide (r.name ≠ ([] : Str))) (yb := decide ((((r.name).length : Nat) : Int) ≤ 60)) rfl rfl rfl) ?_
      refine WL.val1 (R_move (v := .bool ((decide (r.name ≠ ([] : Str)) && decide ((((r.name).length : Nat) : Int) ≤ 60)))) rfl) ?_
      refine WL.gpure (gd := (decide (r.name ≠ ([] : Str)) && decide ((((r.name).length : Nat) : Int) ≤ 60))) (yl_t (d := 61) rfl rfl) (fun hg => R_fieldAddr (b := w.heap.size) (off := 0) (m := 1) rfl (fun _ => by kernel_rfl)) ?_
      refine WL.gpure (gd := (decide (r.name ≠ ([] : Str)) && decide ((((r.name).length : Nat) : Int) ≤ 60))) (yl_t (d := 61) rfl rfl) (fun hg => R_load (v := .slice (r_a1) (r.seens).length (r_c1)) (gvT hg rfl) (hS5.has (i := 1) rfl) (Tryd.isAgg30 _) rfl) ?_
      refine WL.gpure (gd := (decide (r.name ≠ ([] : Str)) && decide ((((r.name).length : Nat) : Int) ≤ 60))) (yl_t (d := 61) rfl rfl) (fun hg => R_len_slice (n := (r.seens).length) (gvT hg rfl) Tryd.underlying30) ?_
      refine WL.gpure (gd := (decide (r.name ≠ ([] : Str)) && decide ((((r.name).length : Nat) : Int) ≤ 60))) (yl_t (d := 61) rfl rfl) (fun hg => R_leq (a := (((r.seens).length : Nat) : Int)) (b := 40) (gvT hg rfl) rfl) ?_
      refine WL.val1 (R_and (cb := (decide (r.name ≠ ([] : Str)) && decide ((((r.name).length : Nat) : Int) ≤ 60))) (yb := decide ((((r.seens).length : Nat) : Int) ≤ 40)) rfl rfl rfl) ?_
      refine WL.val1 (R_move (v := .bool (((decide (r.name ≠ ([] : Str)) && decide ((((r.name).length : Nat) : Int) ≤ 60)) && decide ((((r.seens).length : Nat) : Int) ≤ 40)))) rfl) ?_
      refine WL.gpure (gd := ((decide (r.name ≠ ([] : Str)) && decide ((((r.name).length : Nat) : Int) ≤ 60)) && decide ((((r.seens).length : Nat) : Int) ≤ 40))) (yl_t (d := 67) rfl rfl) (fun hg => R_fieldAddr (b := w.heap.size) (off := 0) (m := 2) rfl (fun _ => by kernel_rfl)) ?_
      refine WL.gpure (gd := ((decide (r.name ≠ ([] : Str)) && decide ((((r.name).length : Nat) : Int) ≤ 60)) && decide ((((r.seens).length : Nat) : Int) ≤ 40))) (yl_t (d := 67) rfl rfl) (fun hg => R_load (v := .slice (r_a2) (r.files).length (r_c2)) (gvT hg rfl) (hS5.has (i := 1) rfl) (Tryd.isAgg23 _) rfl) ?_
      refine S_gcallP (vs := [.slice (r_a2) (r.files).length (r_c2)]) (gd := ((decide (r.name ≠ ([] : Str)) && decide ((((r.name).length : Nat) : Int) ≤ 60)) && decide ((((r.seens).length : Nat) : Int) ≤ 40))) hS5 Tryd.call47 (yl_t (d := 67) rfl rfl) (fun hg => (hmap1 (gvT hg rfl))) (fun hg => (files_Right (r.files) (r_a2) (r_c2) (by first | assumption | omega | exact hz.2.2.big | (have := hz.2.2.1; omega)) (by first | assumption | omega | exact hz.2.2.big | (have := hz.2.2.1; omega)))) (fun hg => (sl_r1.mono hl8)) ?_
      intro w23 hS22
      refine WL.val1 (R_and (cb := ((decide (r.name ≠ ([] : Str)) && decide ((((r.name).length : Nat) : Int) ≤ 60)) && decide ((((r.seens).length : Nat) : Int) ≤ 40))) (yb := rightS r.files) rfl rfl rfl) ?_
      refine WL.val1 (R_assign (v := .bool ((((decide (r.name ≠ ([] : Str)) && decide ((((r.name).length : Nat) : Int) ≤ 60)) && decide ((((r.seens).length : Nat) : Int) ≤ 40)) && rightS r.files))) rfl) ?_
      refine WL.nil ?_
      refine then_normal ?_
      refine WC.ret ?_
      refine top_ret (.bool ((((decide (r.name ≠ ([] : Str)) && decide ((((r.name).length : Nat) : Int) ≤ 60)) && decide ((((r.seens).length : Nat) : Int) ≤ 40)) && rightS r.files))) (gives1 rfl rfl) ?_
      exact ⟨(by apply congrArg Value.bool; rw [mayS, ← f2, mayF_end (by omega), Bool.true_and, Bool.eq_iff_iff]; simp only [Bool.and_eq_true, decide_eq_true_eq, ne_eq, len_zero]; constructor; (rintro ⟨⟨⟨h1, h2⟩, h3⟩, h4⟩; exact ⟨⟨⟨by omega, by omega⟩, by omega⟩, h4⟩); (rintro ⟨⟨⟨h1, h2⟩, h3⟩, h4⟩; exact ⟨⟨⟨by omega, by omega⟩, by omega⟩, h4⟩)), (hS22.pop.pop.weaken_h hl8)⟩
end Go.Stet
