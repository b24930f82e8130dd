/- A part of the proof engine: rules for steps of the machine over frames and memory. Each under the conditions that its own statement names. -/
import Derived.Test.YtejombkbijackaaDoorSeatD2
import Derived.Test.YtejombkbijackaaDoorBldD
import Derived.Test.YtejombkbijackaaDoorEng15
import Derived.Test.YtejombkbijackaaDoorSpec12
import Derived.Test.YtejombkbijackaaDoorD16
set_option linter.all false
set_option linter.unusedSimpArgs false
set_option linter.unusedVariables false
namespace Go.Stet
open Go Go.Eng Go.Proofs
set_option maxHeartbeats 4000000 in
theorem law_RecordLooks (l : List Rec) (l_a : Option Addr) (l_c : Nat) (files : List File) (files_a : Option Addr) (files_c : Nat) (names : List Str) (names_a : Option Addr) (names_c : Nat) (hbig : ∀ x ∈ files, x.name.length ≤ 9223372036854775807) : PureC GG Tryd.prog 3 (fun h => Sl RRec h l l_a l_c ∧ Sl RFile h files files_a files_c ∧ Sl Rstr h names names_a names_c) [.slice (l_a) (l).length (l_c), .slice (files_a) (files).length (files_c), .slice (names_a) (names).length (names_c)] (.bool (true)) := by
  intro Γ h L w hpre hS
  obtain ⟨sl_l, sl_files, sl_names⟩ := hpre
  have hz := cutS_sz6 l
  have h6 := cutS_six l
  have hmr := mapS_right files 8 120
  have hml := rightS_len hmr
  have hsrt := (rightS_iff.1 hmr).1
  refine Ret.body Tryd.func3 rfl Tryd.ntmps3 (Nat.le_of_ble_eq_true rfl) ?_
  refine WC.seq ?_
  refine WC.region ?_
  refine WL.val1 (R_assign (v := .bool (false)) rfl) ?_
  refine WL.nil ?_
  refine then_normal ?_
  refine WC.seq ?_
  refine WC.region ?_
  refine WL.val1 (R_move (v := .slice (l_a) (l).length (l_c)) rfl) ?_
  refine S_callF (vs := [.slice (l_a) (l).length (l_c), .int .i64 (6)]) hS Tryd.call4 rfl (law_Cut (l) (l_a) (l_c) (6) (by first | assumption | omega | exact hz | exact hz.take _ | exact rput_sz hz (by omega) (hz.2 _ (List.mem_of_getElem? hz_cutS_l_6_j)) | exact rput_sz (hz.take _) (by rw [List.length_take]; omega) (hz.2 _ (List.mem_of_getElem? hz_cutS_l_6_j)) | exact refPut_sz hz (by omega) (hz.2 _ (List.mem_of_getElem? hz_cutS_l_6_j)) | exact refPut_sz (hz.take _) (by rw [List.length_take]; omega) (hz.2 _ (List.mem_of_getElem? hz_cutS_l_6_j)) | exact szl_one (rfind_sz hz) | exact szl_one (refFind_sz hz) | exact SzL.len (hz) | exact SzL.seens (hz) | exact SzL.both (hz) | exact SzL.len (hz.take _) | exact SzL.seens (hz.take _) | exact SzL.both (hz.take _) | exact SzL.len (rput_sz hz (by omega) (hz.2 _ (List.mem_of_getElem? hz_cutS_l_6_j))) | exact SzL.seens (rput_sz hz (by omega) (hz.2 _ (List.mem_of_getElem? hz_cutS_l_6_j))) | exact SzL.both (rput_sz hz (by omega) (hz.2 _ (List.mem_of_getElem? hz_cutS_l_6_j))) | exact SzL.len (rput_sz (hz.take _) (by rw [List.length_take]; omega) (hz.2 _ (List.mem_of_getElem? hz_cutS_l_6_j))) | exact SzL.seens (rput_sz (hz.take _) (by rw [List.length_take]; omega) (hz.2 _ (List.mem_of_getElem? hz_cutS_l_6_j))) | exact SzL.both (rput_sz (hz.take _) (by rw [List.length_take]; omega) (hz.2 _ (List.mem_of_getElem? hz_cutS_l_6_j))) | exact SzL.len (szl_one (rfind_sz hz)) | exact SzL.seens (szl_one (rfind_sz hz)) | exact SzL.both (szl_one (rfind_sz hz)) | exact SzL.len (szl_one (refFind_sz hz)) | exact SzL.seens (szl_one (refFind_sz hz)) | exact SzL.both (szl_one (refFind_sz hz)) | exact SzR.s (hz.2 _ (List.mem_of_getElem? hz_cutS_l_6_j)) | exact SzR.f (hz.2 _ (List.mem_of_getElem? hz_cutS_l_6_j)) | (simp only [List.length_take]; omega))) sl_l ?_
  intro h3 v5 w2 hl4 hp6 hS1
  obtain ⟨a7, c8, rfl, hf9⟩ := hp6
  refine WL.val1 (R_assign (v := .slice (a7) ((cutS l 6)).length (c8)) rfl) ?_
  refine WL.nil ?_
  refine then_normal ?_
  refine WC.seq ?_
  refine WC.region ?_
  refine WL.val1 (R_move (v := .slice (files_a) (files).length (files_c)) rfl) ?_
  refine S_callF (vs := [.slice (files_a) (files).length (files_c), .int .i64 (8), .int .i64 (120)]) hS1 Tryd.call5 rfl (ref02_Map (files) (files_a) (files_c) (8) (120) (by first | assumption | omega | exact hz | exact hz.take _ | exact rput_sz hz (by omega) (hz.2 _ (List.mem_of_getElem? hz_cutS_l_6_j)) | exact rput_sz (hz.take _) (by rw [List.length_take]; omega) (hz.2 _ (List.mem_of_getElem? hz_cutS_l_6_j)) | exact refPut_sz hz (by omega) (hz.2 _ (List.mem_of_getElem? hz_cutS_l_6_j)) | exact refPut_sz (hz.take _) (by rw [List.length_take]; omega) (hz.2 _ (List.mem_of_getElem? hz_cutS_l_6_j)) | exact szl_one (rfind_sz hz) | exact szl_one (refFind_sz hz) | exact SzL.len (hz) | exact SzL.seens (hz) | exact SzL.both (hz) | exact SzL.len (hz.take _) | exact SzL.seens (hz.take _) | exact SzL.both (hz.take _) | exact SzL.len (rput_sz hz (by omega) (hz.2 _ (List.mem_of_getElem? hz_cutS_l_6_j))) | exact SzL.seens (rput_sz hz (by omega) (hz.2 _ (List.mem_of_getElem? hz_cutS_l_6_j))) | exact SzL.both (rput_sz hz (by omega) (hz.2 _ (List.mem_of_getElem? hz_cutS_l_6_j))) | exact SzL.len (rput_sz (hz.take _) (by rw [List.length_take]; omega) (hz.2 _ (List.mem_of_getElem? hz_cutS_l_6_j))) | exact SzL.seens (rput_sz (hz.take _) (by rw [List.length_take]; omega) (hz.2 _ (List.mem_of_getElem? hz_cutS_l_6_j))) | exact SzL.both (rput_sz (hz.take _) (by rw [List.length_take]; omega) (hz.2 _ (List.mem_of_getElem? hz_cutS_l_6_j))) | exact SzL.len (szl_one (rfind_sz hz)) | exact SzL.seens (szl_one (rfind_sz hz)) | exact SzL.both (szl_one (rfind_sz hz)) | exact SzL.len (szl_one (refFind_sz hz)) | exact SzL.seens (szl_one (refFind_sz hz)) | exact SzL.both (szl_one (refFind_sz hz)) | exact SzR.s (hz.2 _ (List.mem_of_getElem? hz_cutS_l_6_j)) | exact SzR.f (hz.2 _ (List.mem_of_getElem? hz_cutS_l_6_j)) | (simp only [List.length_take]; omega)) (by first | assumption | omega | exact hz | exact hz.take _ | exact rput_sz hz (by omega) (hz.2 _ (List.mem_of_getElem? hz_cutS_l_6_j)) | exact rput_sz (hz.take _) (by rw [List.length_take]; omega) (hz.2 _ (List.mem_of_getElem? hz_cutS_l_6_j)) | exact refPut_sz hz (by omega) (hz.2 _ (List.mem_of_getElem? hz_cutS_l_6_j)) | exact refPut_sz (hz.take _) (by rw [List.length_take]; omega) (hz.2 _ (List.mem_of_getElem? hz_cutS_l_6_j)) | exact szl_one (rfind_sz hz) | exact szl_one (refFind_sz hz) | exact SzL.len (hz) | exact SzL.seens (hz) | exact SzL.both (hz) | exact SzL.len (hz.take _) | exact SzL.seens (hz.take _) | exact SzL.both (hz.take _) | exact SzL.len (rput_sz hz (by omega) (hz.2 _ (List.mem_of_getElem? hz_cutS_l_6_j))) | exact SzL.seens (rput_sz hz (by omega) (hz.2 _ (List.mem_of_getElem? hz_cutS_l_6_j))) | exact SzL.both (rput_sz hz (by omega) (hz.2 _ (List.mem_of_getElem? hz_cutS_l_6_j))) | exact SzL.len (rput_sz (hz.take _) (by rw [List.length_take]; omega) (hz.2 _ (List.mem_of_getElem? hz_cutS_l_6_j))) | exact SzL.seens (rput_sz (hz.take _) (by rw [List.length_take]; omega) (hz.2 _ (List.mem_of_getElem? hz_cutS_l_6_j))) | exact SzL.both (rput_sz (hz.take _) (by rw [List.length_take]; omega) (hz.2 _ (List.mem_of_getElem? hz_cutS_l_6_j))) | exact SzL.len (szl_one (rfind_sz hz)) | exact SzL.seens (szl_one (rfind_sz hz)) | exact SzL.both (szl_one (rfind_sz hz)) | exact SzL.len (szl_one (refFind_sz hz)) | exact SzL.seens (szl_one (refFind_sz hz)) | exact SzL.both (szl_one (refFind_sz hz)) | exact SzR.s (hz.2 _ (List.mem_of_getElem? hz_cutS_l_6_j)) | exact SzR.f (hz.2 _ (List.mem_of_getElem? hz_cutS_l_6_j)) | (simp only [List.length_take]; omega)) (by first | assumption | omega | exact hz | exact hz.take _ | exact rput_sz hz (by omega) (hz.2 _ (List.mem_of_getElem? hz_cutS_l_6_j)) | exact rput_sz (hz.take _) (by rw [List.length_take]; omega) (hz.2 _ (List.mem_of_getElem? hz_cutS_l_6_j)) | exact refPut_sz hz (by omega) (hz.2 _ (List.mem_of_getElem? hz_cutS_l_6_j)) | exact refPut_sz (hz.take _) (by rw [List.length_take]; omega) (hz.2 _ (List.mem_of_getElem? hz_cutS_l_6_j)) | exact szl_one (rfind_sz hz) | exact szl_one (refFind_sz hz) | exact SzL.len (hz) | exact SzL.seens (hz) | exact SzL.both (hz) | exact SzL.len (hz.take _) | exact SzL.seens (hz.take _) | exact SzL.both (hz.take _) | exact SzL.len (rput_sz hz (by omega) (hz.2 _ (List.mem_of_getElem? hz_cutS_l_6_j))) | exact SzL.seens (rput_sz hz (by omega) (hz.2 _ (List.mem_of_getElem? hz_cutS_l_6_j))) | exact SzL.both (rput_sz hz (by omega) (hz.2 _ (List.mem_of_getElem? hz_cutS_l_6_j))) | exact SzL.len (rput_sz (hz.take _) (by rw [List.length_take]; omega) (hz.2 _ (List.mem_of_getElem? hz_cutS_l_6_j))) | exact SzL.seens (rput_sz (hz.take _) (by rw [List.length_take]; omega) (hz.2 _ (List.mem_of_getElem? hz_cutS_l_6_j))) | exact SzL.both (rput_sz (hz.take _) (by rw [List.length_take]; omega) (hz.2 _ (List.mem_of_getElem? hz_cutS_l_6_j))) | exact SzL.len (szl_one (rfind_sz hz)) | exact SzL.seens (szl_one (rfind_sz hz)) | exact SzL.both (szl_one (rfind_sz hz)) | exact SzL.len (szl_one (refFind_sz hz)) | exact SzL.seens (szl_one (refFind_sz hz)) | exact SzL.both (szl_one (refFind_sz hz)) | exact SzR.s (hz.2 _ (List.mem_of_getElem? hz_cutS_l_6_j)) | exact SzR.f (hz.2 _ (List.mem_of_getElem? hz_cutS_l_6_j)) | (simp only [List.length_take]; omega))) (sl_files.mono hl4) ?_
  intro h12 v14 w11 hl13 hp15 hS10
  obtain ⟨a16, c17, rfl, hf18⟩ := hp15
  refine WL.val1 (R_assign (v := .slice (a16) ((mapS files 8 120)).length (c17)) rfl) ?_
  refine WL.nil ?_
  refine then_normal ?_
  refine WC.seq ?_
  refine WC.region ?_
  refine S_buildSlice0 (R := Rstr) (e := 9) hS10 Tryd.underlying24 (Tryd.sizeOf9) ?_
  intro w20 hS19
  refine WL.val1 (R_assign (v := .slice (some ⟨w11.heap.size, 0, none⟩) 0 (0)) rfl) ?_
  refine WL.nil ?_
  refine then_normal ?_
  refine WC.seq ?_
  refine WC.seq ?_
  refine WC.region ?_
  refine WL.val1 (R_assign (v := .int .i64 (0)) rfl) ?_
  refine WL.nil ?_
  refine then_normal ?_
  refine WC.block ?_
  refine WC.loopL (σ := Nat × (List Str) × (Option Addr) × Nat)
    (fun (q_ : Nat × (List Str) × (Option Addr) × Nat) => (fun (i : Nat) (ns : List Str) (ns_a : Option Addr) (ns_c : Nat) => [(0, .slice (a7) ((cutS l 6)).length (c8)), (2, .slice (names_a) (names).length (names_c)), (7, .slice (a16) ((mapS files 8 120)).length (c17)), (8, .slice (ns_a) (ns).length (ns_c)), (9, .int .i64 (((i : Nat) : Int)))]) (q_.1) (q_.2.1) (q_.2.2.1) (q_.2.2.2))
    (fun (q_ : Nat × (List Str) × (Option Addr) × Nat) (w_ : World) => (fun (i : Nat) (ns : List Str) (ns_a : Option Addr) (ns_c : Nat) => ∃ h23 : Hp, h12.le h23 ∧ St Γ h23 (grow 9 Rstr h23 (ns) (ns_a) (ns_c) :: L) w_ ∧ (i ≤ names.length ∧ i ≤ 10) ∧ (ns = ((names.take 10).take i).map (fun s => s.take (min s.length 60)))) (q_.1) (q_.2.1) (q_.2.2.1) (q_.2.2.2))
    (fun (q_ : Nat × (List Str) × (Option Addr) × Nat) => (fun (i : Nat) (ns : List Str) (ns_a : Option Addr) (ns_c : Nat) => names.length - i) (q_.1) (q_.2.1) (q_.2.2.1) (q_.2.2.2)) (0, ([] : List Str), some ⟨w11.heap.size, 0, none⟩, 0) ?_ ?_ ?_
  · exact ⟨rfl, rfl, rfl, (by first | rfl | (apply congrArg (Value.int .i64); omega) | simp), (by first | rfl | (apply congrArg (Value.int .i64); omega) | simp), trivial⟩
  · exact ⟨h12, Hp.le_refl _, hS19, (by first | assumption | omega | simp), (by rw [List.take_zero]; rfl)⟩
  · rintro ⟨i, ns, ns_a, ns_c⟩ r25 w22 ⟨h23, hl24, hS21, f1, f2⟩
    try dsimp only at f1 f2
    have f3 : ns.length = i := by rw [f2, List.length_map, List.length_take, List.length_take]; omega
    refine WC.seq ?_
    refine WC.seq ?_
    refine WC.region ?_
    refine WL.val1 (R_move (v := .int .i64 (((i : Nat) : Int))) rfl) ?_
    refine WL.val1 (R_move (v := .slice (names_a) (names).length (names_c)) rfl) ?_
    refine WL.val1 (R_len_slice (n := (names).length) rfl Tryd.underlying24) ?_
    refine WL.val1 (R_lss (a := ((i : Nat) : Int)) (b := (((names).length : Nat) : Int)) rfl rfl) ?_
    refine WL.val1 (R_move (v := .bool (decide (((i : Nat) : Int) < (((names).length : Nat) : Int)))) rfl) ?_
    refine WL.gpure (gd := decide (((i : Nat) : Int) < (((names).length : Nat) : Int))) (yl_t (d := 25) rfl rfl) (fun hg => R_move (v := .int .i64 (((i : Nat) : Int))) rfl) ?_
    refine WL.gpure (gd := decide (((i : Nat) : Int) < (((names).length : Nat) : Int))) (yl_t (d := 25) rfl rfl) (fun hg => R_lss (a := ((i : Nat) : Int)) (b := 10) (gvT hg rfl) rfl) ?_
    refine WL.val1 (R_and (cb := decide (((i : Nat) : Int) < (((names).length : Nat) : Int))) (yb := decide (((i : Nat) : Int) < 10)) rfl rfl rfl) ?_
    refine WL.nil ?_
    refine then_normal ?_
    refine WC.condI ((((i : Nat) : Int) < (((names).length : Nat) : Int) ∧ ((i : Nat) : Int) < 10)) (b := (decide (((i : Nat) : Int) < (((names).length : Nat) : Int)) && decide (((i : Nat) : Int) < 10))) rfl (b_and b_dec b_dec) (fun c0 => ?_) (fun c0 => ?_)
    · skip
      refine WC.skip ?_
      refine then_normal ?_
      refine WC.seq ?_
      refine WC.block ?_
      obtain ⟨z_names_i, hz_names_i⟩ : ∃ z, (names)[i]? = some z := ⟨_, List.getElem?_eq_getElem (by omega)⟩
      obtain ⟨b42, o43, cs47, ha44, hr45, hat46⟩ := (sl_names.mono ((hl4.trans hl13).trans hl24)).2 i z_names_i hz_names_i
      subst hr45
      refine WC.draw 13 [(0, .slice (a7) ((cutS l 6)).length (c8)), (2, .slice (names_a) (names).length (names_c)), (7, .slice (a16) ((mapS files 8 120)).length (c17)), (8, .slice (ns_a) (ns).length (ns_c)), (9, .int .i64 (((i : Nat) : Int)))] [fun _ v => v = .slice (ns_a) (ns).length (ns_c), fun _ v => v = .slice (names_a) (names).length (names_c), fun _ v => v = .int .i64 (((i : Nat) : Int)), fun _ v => v = .pointer (some ⟨b42, (o43 + i * Rstr.n), none⟩), fun _ v => v = .string (B (z_names_i)), fun _ v => v = .slice (names_a) (names).length (names_c), fun _ v => v = .int .i64 (((i : Nat) : Int)), fun _ v => v = .pointer (some ⟨b42, (o43 + i * Rstr.n), none⟩), fun _ v => v = .string (B (z_names_i)), fun _ v => v = .int .i64 ((((z_names_i).length : Nat) : Int)), fun _ v => v = .int .i64 ((min ((((z_names_i).length : Nat) : Int)) (60))), fun _ v => v = .string (B ((z_names_i.take (min ((z_names_i).length) (60))))), fun h v => ∃ (b0_ : Nat), v = .slice (some ⟨b0_, 0, none⟩) 1 (1) ∧ Sl Rstr h ([(z_names_i.take (min ((z_names_i).length) (60)))]) (some ⟨b0_, 0, none⟩) (1)] hS21 (by kernel_rfl) (by kernel_rfl) (MonoFs.pure (MonoFs.pure (MonoFs.pure (MonoFs.pure (MonoFs.pure (MonoFs.pure (MonoFs.pure (MonoFs.pure (MonoFs.pure (MonoFs.pure (MonoFs.pure (MonoFs.pure (MonoFs.cons (fun _ _ _ hl ⟨x0, e, y0⟩ => ⟨x0, e, y0.mono hl⟩) MonoFs.nil))))))))))))) ⟨rfl, rfl, rfl, rfl, rfl, trivial⟩ ⟨?_, ?_, ?_, ?_, ?_, ?_, ?_, ?_, ?_, ?_, ?_, ?_, ?_, trivial⟩ ?_
      · intro r_ w94 h95 hl96 hS93 hb_ hp_
        obtain ⟨b0_, b1_, b2_, b3_, b4_, _⟩ := hb_
        refine WL.val1 (R_move (v := .slice (ns_a) (ns).length (ns_c)) b3_) ?_
        refine WL.nil ?_
        exact ⟨rfl, _, _, rfl, (Hp.le_refl _), rfl, hS93⟩
      · intro r_ w98 h99 hl100 hS97 hb_ hp_
        obtain ⟨b0_, b1_, b2_, b3_, b4_, _⟩ := hb_
        refine WL.val1 (R_move (v := .slice (names_a) (names).length (names_c)) b1_) ?_
        refine WL.nil ?_
        exact ⟨rfl, _, _, rfl, (Hp.le_refl _), rfl, hS97⟩
      · intro r_ w102 h103 hl104 hS101 hb_ hp_
        obtain ⟨b0_, b1_, b2_, b3_, b4_, _⟩ := hb_
        refine WL.val1 (R_move (v := .int .i64 (((i : Nat) : Int))) b4_) ?_
        refine WL.nil ?_
        exact ⟨rfl, _, _, rfl, (Hp.le_refl _), rfl, hS101⟩
      · intro r_ w106 h107 hl108 hS105 hb_ hp_
        obtain ⟨b0_, b1_, b2_, b3_, b4_, _⟩ := hb_
        obtain ⟨p0_, p1_, _⟩ := hp_
        have p0_ : r_ 32 = .slice (names_a) (names).length (names_c) := p0_
        have p1_ : r_ 33 = .int .i64 (((i : Nat) : Int)) := p1_
        refine WL.val1 (R_indexAddrE (i := ((i : Nat) : Int)) (m := i) ha44 p0_ p1_ Tryd.underlying24 (Tryd.sizeOf9 _) (by first | rfl | (omega)) (by omega)) ?_
        refine WL.nil ?_
        exact ⟨rfl, _, _, rfl, (Hp.le_refl _), rfl, hS105⟩
      · intro r_ w110 h111 hl112 hS109 hb_ hp_
        obtain ⟨b0_, b1_, b2_, b3_, b4_, _⟩ := hb_
        obtain ⟨p0_, _⟩ := hp_
        have p0_ : r_ 34 = .pointer (some ⟨b42, (o43 + i * Rstr.n), none⟩) := p0_
        refine WL.val1 (R_loadC (v := .string (B (z_names_i))) hS109 p0_ (hat46.mono hl112) Tryd.isAgg9 rfl) ?_
        refine WL.nil ?_
        exact ⟨rfl, _, _, rfl, (Hp.le_refl _), rfl, hS109⟩
      · intro r_ w114 h115 hl116 hS113 hb_ hp_
        obtain ⟨b0_, b1_, b2_, b3_, b4_, _⟩ := hb_
        refine WL.val1 (R_move (v := .slice (names_a) (names).length (names_c)) b1_) ?_
        refine WL.nil ?_
        exact ⟨rfl, _, _, rfl, (Hp.le_refl _), rfl, hS113⟩
      · intro r_ w118 h119 hl120 hS117 hb_ hp_
        obtain ⟨b0_, b1_, b2_, b3_, b4_, _⟩ := hb_
        refine WL.val1 (R_move (v := .int .i64 (((i : Nat) : Int))) b4_) ?_
        refine WL.nil ?_
        exact ⟨rfl, _, _, rfl, (Hp.le_refl _), rfl, hS117⟩
      · intro r_ w122 h123 hl124 hS121 hb_ hp_
        obtain ⟨b0_, b1_, b2_, b3_, b4_, _⟩ := hb_
        obtain ⟨p0_, p1_, _⟩ := hp_
        have p0_ : r_ 36 = .slice (names_a) (names).length (names_c) := p0_
        have p1_ : r_ 37 = .int .i64 (((i : Nat) : Int)) := p1_
        refine WL.val1 (R_indexAddrE (i := ((i : Nat) : Int)) (m := i) ha44 p0_ p1_ Tryd.underlying24 (Tryd.sizeOf9 _) (by first | rfl | (omega)) (by omega)) ?_
        refine WL.nil ?_
        exact ⟨rfl, _, _, rfl, (Hp.le_refl _), rfl, hS121⟩
      · intro r_ w126 h127 hl128 hS125 hb_ hp_
        obtain ⟨b0_, b1_, b2_, b3_, b4_, _⟩ := hb_
        obtain ⟨p0_, _⟩ := hp_
        have p0_ : r_ 38 = .pointer (some ⟨b42, (o43 + i * Rstr.n), none⟩) := p0_
        refine WL.val1 (R_loadC (v := .string (B (z_names_i))) hS125 p0_ (hat46.mono hl128) Tryd.isAgg9 rfl) ?_
        refine WL.nil ?_
        exact ⟨rfl, _, _, rfl, (Hp.le_refl _), rfl, hS125⟩
      · intro r_ w130 h131 hl132 hS129 hb_ hp_
        obtain ⟨b0_, b1_, b2_, b3_, b4_, _⟩ := hb_
        obtain ⟨p0_, _⟩ := hp_
        have p0_ : r_ 39 = .string (B (z_names_i)) := p0_
        refine WL.val1 (R_slen (a := z_names_i) p0_ Tryd.underlying9) ?_
        refine WL.nil ?_
        exact ⟨rfl, _, _, rfl, (Hp.le_refl _), rfl, hS129⟩
      · intro r_ w134 h135 hl136 hS133 hb_ hp_
        obtain ⟨b0_, b1_, b2_, b3_, b4_, _⟩ := hb_
        obtain ⟨p0_, _⟩ := hp_
        have p0_ : r_ 40 = .int .i64 ((((z_names_i).length : Nat) : Int)) := p0_
        refine WL.val1 (R_min (a := (((z_names_i).length : Nat) : Int)) (b := 60) p0_ rfl) ?_
        refine WL.nil ?_
        exact ⟨rfl, _, _, rfl, (Hp.le_refl _), rfl, hS133⟩
      · intro r_ w138 h139 hl140 hS137 hb_ hp_
        obtain ⟨b0_, b1_, b2_, b3_, b4_, _⟩ := hb_
        obtain ⟨p0_, p1_, _⟩ := hp_
        have p0_ : r_ 35 = .string (B (z_names_i)) := p0_
        have p1_ : r_ 41 = .int .i64 ((min ((((z_names_i).length : Nat) : Int)) (60))) := p1_
        refine WL.val1 (R_sslice_h (a := z_names_i) (j := (min ((((z_names_i).length : Nat) : Int)) (60))) (n := (min ((z_names_i).length) (60))) p0_ p1_ Tryd.underlying9 (by first | rfl | (omega)) (by omega)) ?_
        refine WL.nil ?_
        exact ⟨rfl, _, _, rfl, (Hp.le_refl _), rfl, hS137⟩
      · intro r_ w142 h143 hl144 hS141 hb_ hp_
        obtain ⟨b0_, b1_, b2_, b3_, b4_, _⟩ := hb_
        obtain ⟨p0_, _⟩ := hp_
        have p0_ : r_ 42 = .string (B ((z_names_i.take (min ((z_names_i).length) (60))))) := p0_
        refine S_buildSliceC (R := Rstr) (m := 1) (vs := [(0, .string (B ((z_names_i.take (min ((z_names_i).length) (60))))))]) (cells := [.string (B ((z_names_i.take (min ((z_names_i).length) (60)))))]) (xs := [(z_names_i.take (min ((z_names_i).length) (60)))]) hS141 Tryd.underlying24 Tryd.sizeOf9 Tryd.zeroValue9 (by decide) (by decide) (pmap1 (v := .string (B ((z_names_i.take (min ((z_names_i).length) (60)))))) p0_) (by kernel_rfl) (by exact (⟨[.string (B ((z_names_i.take (min ((z_names_i).length) (60)))))], _, rfl, rfl, rfl⟩ : Flat Rstr _ [(z_names_i.take (min ((z_names_i).length) (60)))] _)) rfl ?_
        intro h147 b149 w146 hl148 hs150 hS145
        refine WL.nil ?_
        exact ⟨rfl, _, _, rfl, hl148, ⟨b149, rfl, hs150⟩, hS145⟩
      · intro r_ w154 h155 hl156 hS153 hb_ hf_
        obtain ⟨b0_, b1_, b2_, b3_, b4_, _⟩ := hb_
        obtain ⟨q0_, q1_, q2_, q3_, q4_, q5_, q6_, q7_, q8_, q9_, q10_, q11_, q12_, _⟩ := hf_
        obtain ⟨b157, q12_, hs158⟩ := q12_
        refine WL.frame [(0, .slice (a7) ((cutS l 6)).length (c8)), (2, .slice (names_a) (names).length (names_c)), (7, .slice (a16) ((mapS files 8 120)).length (c17)), (8, .slice (ns_a) (ns).length (ns_c)), (9, .int .i64 (((i : Nat) : Int))), (31, .slice (ns_a) (ns).length (ns_c)), (32, .slice (names_a) (names).length (names_c)), (33, .int .i64 (((i : Nat) : Int))), (34, .pointer (some ⟨b42, (o43 + i * Rstr.n), none⟩)), (35, .string (B (z_names_i))), (36, .slice (names_a) (names).length (names_c)), (37, .int .i64 (((i : Nat) : Int))), (38, .pointer (some ⟨b42, (o43 + i * Rstr.n), none⟩)), (39, .string (B (z_names_i))), (40, .int .i64 ((((z_names_i).length : Nat) : Int))), (41, .int .i64 ((min ((((z_names_i).length : Nat) : Int)) (60)))), (42, .string (B ((z_names_i.take (min ((z_names_i).length) (60)))))), (43, .slice (some ⟨b157, 0, none⟩) 1 (1))] ⟨b0_, b1_, b2_, b3_, b4_, q0_, q1_, q2_, q3_, q4_, q5_, q6_, q7_, q8_, q9_, q10_, q11_, q12_, trivial⟩ (fun r_ => ?_)
        refine S_append (info := Tryd.t9) (R := Rstr) (xs := ns) (ys := [(z_names_i.take (min ((z_names_i).length) (60)))]) (a := ns_a) (c := ns_c) 0 Tryd.underlying24 (by kernel_rfl) rfl rfl rfl (by decide) 16 rfl hS153 rfl hl156 hs158 rfl rfl (by (try simp only [List.length_append, List.length_cons, List.length_nil]); omega) (by (try simp only [List.length_append, List.length_cons, List.length_nil]); omega) ?_
        intro a159 c160 w161 hS162
        refine WL.val1 (R_assign (v := .slice (a159) ((ns ++ [(z_names_i.take (min ((z_names_i).length) (60)))])).length (c160)) rfl) ?_
        refine WL.nil ?_
        refine block_normal ?_
        refine then_normal ?_
        refine WC.region ?_
        refine WL.val1 (R_move (v := .int .i64 (((i : Nat) : Int))) rfl) ?_
        refine WL.val1 (R_add_i (a := ((i : Nat) : Int)) (b := 1) rfl rfl (by omega)) ?_
        refine WL.val1 (R_assign (v := .int .i64 ((((i : Nat) : Int) + 1))) rfl) ?_
        refine WL.nil ?_
        refine then_normal ?_
        exact ⟨(i + 1, (ns ++ [(z_names_i.take (min ((z_names_i).length) (60)))]), a159, c160), ⟨rfl, rfl, rfl, (by first | rfl | (apply congrArg (Value.int .i64); omega) | simp), (by first | rfl | (apply congrArg (Value.int .i64); omega) | simp), trivial⟩, ⟨h155, (hl24.trans hl156), hS162, (by (try dsimp only); first | assumption | omega | simp), (by (try dsimp only); rw [f2, map_take_step hz_names_i (by omega)])⟩, (by first | (simp only []; omega) | (simp; omega))⟩
    · skip
      refine WC.exit ?_
      refine then_exit ?_
      refine then_exit ?_
      refine block_exit ?_
      refine then_normal ?_
      refine WC.seq ?_
      refine WC.seq ?_
      obtain ⟨h163, hl164, hs165, hS166⟩ := hS21.growCommit (i := 0) rfl (Hp.le_refl _)
      have f4 : ns = cutN names := by rw [f2]; exact map_take_end (by omega)
      have f5 := cutN_len names
      rw [← f4] at f5
      have f7 : (refLookS (mapS files 8 120) ns).length ≤ 10 := Nat.le_trans (refLook_len _ _ _) f5
      have f6 : (rlookS (mapS files 8 120) ns).length ≤ 10 := by rw [look_eq hsrt]; exact f7
      refine WC.region ?_
      refine WL.val1 (R_move (v := .slice (a16) ((mapS files 8 120)).length (c17)) rfl) ?_
      refine WL.val1 (R_move (v := .slice (ns_a) (ns).length (ns_c)) rfl) ?_
      refine S_callF (vs := [.slice (a16) ((mapS files 8 120)).length (c17), .slice (ns_a) (ns).length (ns_c)]) hS166 Tryd.call8 rfl (rec_Look ((mapS files 8 120)) (a16) (c17) (ns) (ns_a) (ns_c) (by first | assumption | omega | exact hz | exact hz.take _ | exact rput_sz hz (by omega) (hz.2 _ (List.mem_of_getElem? hz_cutS_l_6_j)) | exact rput_sz (hz.take _) (by rw [List.length_take]; omega) (hz.2 _ (List.mem_of_getElem? hz_cutS_l_6_j)) | exact refPut_sz hz (by omega) (hz.2 _ (List.mem_of_getElem? hz_cutS_l_6_j)) | exact refPut_sz (hz.take _) (by rw [List.length_take]; omega) (hz.2 _ (List.mem_of_getElem? hz_cutS_l_6_j)) | exact szl_one (rfind_sz hz) | exact szl_one (refFind_sz hz) | exact SzL.len (hz) | exact SzL.seens (hz) | exact SzL.both (hz) | exact SzL.len (hz.take _) | exact SzL.seens (hz.take _) | exact SzL.both (hz.take _) | exact SzL.len (rput_sz hz (by omega) (hz.2 _ (List.mem_of_getElem? hz_cutS_l_6_j))) | exact SzL.seens (rput_sz hz (by omega) (hz.2 _ (List.mem_of_getElem? hz_cutS_l_6_j))) | exact SzL.both (rput_sz hz (by omega) (hz.2 _ (List.mem_of_getElem? hz_cutS_l_6_j))) | exact SzL.len (rput_sz (hz.take _) (by rw [List.length_take]; omega) (hz.2 _ (List.mem_of_getElem? hz_cutS_l_6_j))) | exact SzL.seens (rput_sz (hz.take _) (by rw [List.length_take]; omega) (hz.2 _ (List.mem_of_getElem? hz_cutS_l_6_j))) | exact SzL.both (rput_sz (hz.take _) (by rw [List.length_take]; omega) (hz.2 _ (List.mem_of_getElem? hz_cutS_l_6_j))) | exact SzL.len (szl_one (rfind_sz hz)) | exact SzL.seens (szl_one (rfind_sz hz)) | exact SzL.both (szl_one (rfind_sz hz)) | exact SzL.len (szl_one (refFind_sz hz)) | exact SzL.seens (szl_one (refFind_sz hz)) | exact SzL.both (szl_one (refFind_sz hz)) | exact SzR.s (hz.2 _ (List.mem_of_getElem? hz_cutS_l_6_j)) | exact SzR.f (hz.2 _ (List.mem_of_getElem? hz_cutS_l_6_j)) | (simp only [List.length_take]; omega)) (by first | assumption | omega | exact hz | exact hz.take _ | exact rput_sz hz (by omega) (hz.2 _ (List.mem_of_getElem? hz_cutS_l_6_j)) | exact rput_sz (hz.take _) (by rw [List.length_take]; omega) (hz.2 _ (List.mem_of_getElem? hz_cutS_l_6_j)) | exact refPut_sz hz (by omega) (hz.2 _ (List.mem_of_getElem? hz_cutS_l_6_j)) | exact refPut_sz (hz.take _) (by rw [List.length_take]; omega) (hz.2 _ (List.mem_of_getElem? hz_cutS_l_6_j)) | exact szl_one (rfind_sz hz) | exact szl_one (refFind_sz hz) | exact SzL.len (hz) | exact SzL.seens (hz) | exact SzL.both (hz) | exact SzL.len (hz.take _) | exact SzL.seens (hz.take _) | exact SzL.both (hz.take _) | exact SzL.len (rput_sz hz (by omega) (hz.2 _ (List.mem_of_getElem? hz_cutS_l_6_j))) | exact SzL.seens (rput_sz hz (by omega) (hz.2 _ (List.mem_of_getElem? hz_cutS_l_6_j))) | exact SzL.both (rput_sz hz (by omega) (hz.2 _ (List.mem_of_getElem? hz_cutS_l_6_j))) | exact SzL.len (rput_sz (hz.take _) (by rw [List.length_take]; omega) (hz.2 _ (List.mem_of_getElem? hz_cutS_l_6_j))) | exact SzL.seens (rput_sz (hz.take _) (by rw [List.length_take]; omega) (hz.2 _ (List.mem_of_getElem? hz_cutS_l_6_j))) | exact SzL.both (rput_sz (hz.take _) (by rw [List.length_take]; omega) (hz.2 _ (List.mem_of_getElem? hz_cutS_l_6_j))) | exact SzL.len (szl_one (rfind_sz hz)) | exact SzL.seens (szl_one (rfind_sz hz)) | exact SzL.both (szl_one (rfind_sz hz)) | exact SzL.len (szl_one (refFind_sz hz)) | exact SzL.seens (szl_one (refFind_sz hz)) | exact SzL.both (szl_one (refFind_sz hz)) | exact SzR.s (hz.2 _ (List.mem_of_getElem? hz_cutS_l_6_j)) | exact SzR.f (hz.2 _ (List.mem_of_getElem? hz_cutS_l_6_j)) | (simp only [List.length_take]; omega))) ⟨(hf18.mono (hl24.trans hl164)), hs165⟩ ?_
      intro h169 v171 w168 hl170 hp172 hS167
      obtain ⟨a173, c174, rfl, hf175⟩ := hp172
      refine S_callF (vs := [.slice (a173) ((rlookS ((mapS files 8 120)) ns)).length (c174)]) hS167 Tryd.call7 rfl (law_Seens ((rlookS ((mapS files 8 120)) ns)) (a173) (c174) (by first | assumption | omega | exact hz | exact hz.take _ | exact rput_sz hz (by omega) (hz.2 _ (List.mem_of_getElem? hz_cutS_l_6_j)) | exact rput_sz (hz.take _) (by rw [List.length_take]; omega) (hz.2 _ (List.mem_of_getElem? hz_cutS_l_6_j)) | exact refPut_sz hz (by omega) (hz.2 _ (List.mem_of_getElem? hz_cutS_l_6_j)) | exact refPut_sz (hz.take _) (by rw [List.length_take]; omega) (hz.2 _ (List.mem_of_getElem? hz_cutS_l_6_j)) | exact szl_one (rfind_sz hz) | exact szl_one (refFind_sz hz) | exact SzL.len (hz) | exact SzL.seens (hz) | exact SzL.both (hz) | exact SzL.len (hz.take _) | exact SzL.seens (hz.take _) | exact SzL.both (hz.take _) | exact SzL.len (rput_sz hz (by omega) (hz.2 _ (List.mem_of_getElem? hz_cutS_l_6_j))) | exact SzL.seens (rput_sz hz (by omega) (hz.2 _ (List.mem_of_getElem? hz_cutS_l_6_j))) | exact SzL.both (rput_sz hz (by omega) (hz.2 _ (List.mem_of_getElem? hz_cutS_l_6_j))) | exact SzL.len (rput_sz (hz.take _) (by rw [List.length_take]; omega) (hz.2 _ (List.mem_of_getElem? hz_cutS_l_6_j))) | exact SzL.seens (rput_sz (hz.take _) (by rw [List.length_take]; omega) (hz.2 _ (List.mem_of_getElem? hz_cutS_l_6_j))) | exact SzL.both (rput_sz (hz.take _) (by rw [List.length_take]; omega) (hz.2 _ (List.mem_of_getElem? hz_cutS_l_6_j))) | exact SzL.len (szl_one (rfind_sz hz)) | exact SzL.seens (szl_one (rfind_sz hz)) | exact SzL.both (szl_one (rfind_sz hz)) | exact SzL.len (szl_one (refFind_sz hz)) | exact SzL.seens (szl_one (refFind_sz hz)) | exact SzL.both (szl_one (refFind_sz hz)) | exact SzR.s (hz.2 _ (List.mem_of_getElem? hz_cutS_l_6_j)) | exact SzR.f (hz.2 _ (List.mem_of_getElem? hz_cutS_l_6_j)) | (simp only [List.length_take]; omega))) hf175 ?_
      intro h178 v180 w177 hl179 hp181 hS176
      obtain ⟨a182, c183, rfl, hf184⟩ := hp181
      refine WL.val1 (R_move (v := .slice (a16) ((mapS files 8 120)).length (c17)) rfl) ?_
      refine WL.val1 (R_move (v := .slice (ns_a) (ns).length (ns_c)) rfl) ?_
      refine S_callF (vs := [.slice (a16) ((mapS files 8 120)).length (c17), .slice (ns_a) (ns).length (ns_c)]) hS176 Tryd.call9 rfl (ref20_Look ((mapS files 8 120)) (a16) (c17) (ns) (ns_a) (ns_c) (by first | assumption | omega | exact hz | exact hz.take _ | exact rput_sz hz (by omega) (hz.2 _ (List.mem_of_getElem? hz_cutS_l_6_j)) | exact rput_sz (hz.take _) (by rw [List.length_take]; omega) (hz.2 _ (List.mem_of_getElem? hz_cutS_l_6_j)) | exact refPut_sz hz (by omega) (hz.2 _ (List.mem_of_getElem? hz_cutS_l_6_j)) | exact refPut_sz (hz.take _) (by rw [List.length_take]; omega) (hz.2 _ (List.mem_of_getElem? hz_cutS_l_6_j)) | exact szl_one (rfind_sz hz) | exact szl_one (refFind_sz hz) | exact SzL.len (hz) | exact SzL.seens (hz) | exact SzL.both (hz) | exact SzL.len (hz.take _) | exact SzL.seens (hz.take _) | exact SzL.both (hz.take _) | exact SzL.len (rput_sz hz (by omega) (hz.2 _ (List.mem_of_getElem? hz_cutS_l_6_j))) | exact SzL.seens (rput_sz hz (by omega) (hz.2 _ (List.mem_of_getElem? hz_cutS_l_6_j))) | exact SzL.both (rput_sz hz (by omega) (hz.2 _ (List.mem_of_getElem? hz_cutS_l_6_j))) | exact SzL.len (rput_sz (hz.take _) (by rw [List.length_take]; omega) (hz.2 _ (List.mem_of_getElem? hz_cutS_l_6_j))) | exact SzL.seens (rput_sz (hz.take _) (by rw [List.length_take]; omega) (hz.2 _ (List.mem_of_getElem? hz_cutS_l_6_j))) | exact SzL.both (rput_sz (hz.take _) (by rw [List.length_take]; omega) (hz.2 _ (List.mem_of_getElem? hz_cutS_l_6_j))) | exact SzL.len (szl_one (rfind_sz hz)) | exact SzL.seens (szl_one (rfind_sz hz)) | exact SzL.both (szl_one (rfind_sz hz)) | exact SzL.len (szl_one (refFind_sz hz)) | exact SzL.seens (szl_one (refFind_sz hz)) | exact SzL.both (szl_one (refFind_sz hz)) | exact SzR.s (hz.2 _ (List.mem_of_getElem? hz_cutS_l_6_j)) | exact SzR.f (hz.2 _ (List.mem_of_getElem? hz_cutS_l_6_j)) | (simp only [List.length_take]; omega)) (by first | assumption | omega | exact hz | exact hz.take _ | exact rput_sz hz (by omega) (hz.2 _ (List.mem_of_getElem? hz_cutS_l_6_j)) | exact rput_sz (hz.take _) (by rw [List.length_take]; omega) (hz.2 _ (List.mem_of_getElem? hz_cutS_l_6_j)) | exact refPut_sz hz (by omega) (hz.2 _ (List.mem_of_getElem? hz_cutS_l_6_j)) | exact refPut_sz (hz.take _) (by rw [List.length_take]; omega) (hz.2 _ (List.mem_of_getElem? hz_cutS_l_6_j)) | exact szl_one (rfind_sz hz) | exact szl_one (refFind_sz hz) | exact SzL.len (hz) | exact SzL.seens (hz) | exact SzL.both (hz) | exact SzL.len (hz.take _) | exact SzL.seens (hz.take _) | exact SzL.both (hz.take _) | exact SzL.len (rput_sz hz (by omega) (hz.2 _ (List.mem_of_getElem? hz_cutS_l_6_j))) | exact SzL.seens (rput_sz hz (by omega) (hz.2 _ (List.mem_of_getElem? hz_cutS_l_6_j))) | exact SzL.both (rput_sz hz (by omega) (hz.2 _ (List.mem_of_getElem? hz_cutS_l_6_j))) | exact SzL.len (rput_sz (hz.take _) (by rw [List.length_take]; omega) (hz.2 _ (List.mem_of_getElem? hz_cutS_l_6_j))) | exact SzL.seens (rput_sz (hz.take _) (by rw [List.length_take]; omega) (hz.2 _ (List.mem_of_getElem? hz_cutS_l_6_j))) | exact SzL.both (rput_sz (hz.take _) (by rw [List.length_take]; omega) (hz.2 _ (List.mem_of_getElem? hz_cutS_l_6_j))) | exact SzL.len (szl_one (rfind_sz hz)) | exact SzL.seens (szl_one (rfind_sz hz)) | exact SzL.both (szl_one (rfind_sz hz)) | exact SzL.len (szl_one (refFind_sz hz)) | exact SzL.seens (szl_one (refFind_sz hz)) | exact SzL.both (szl_one (refFind_sz hz)) | exact SzR.s (hz.2 _ (List.mem_of_getElem? hz_cutS_l_6_j)) | exact SzR.f (hz.2 _ (List.mem_of_getElem? hz_cutS_l_6_j)) | (simp only [List.length_take]; omega))) ⟨(hf18.mono (((hl24.trans hl164).trans hl170).trans hl179)), (hs165.mono (hl170.trans hl179))⟩ ?_
      intro h187 v189 w186 hl188 hp190 hS185
      obtain ⟨a191, c192, rfl, hf193⟩ := hp190
      refine S_callP (vs := [.slice (a182) (((rlookS ((mapS files 8 120)) ns))).length (c183), .slice (a191) ((refLookS ((mapS files 8 120)) ns)).length (c192)]) hS185 Tryd.call6 rfl (ref20_Seens (((rlookS ((mapS files 8 120)) ns))) (a182) (c183) ((refLookS ((mapS files 8 120)) ns)) (a191) (c192) (by first | assumption | omega | exact hz | exact hz.take _ | exact rput_sz hz (by omega) (hz.2 _ (List.mem_of_getElem? hz_cutS_l_6_j)) | exact rput_sz (hz.take _) (by rw [List.length_take]; omega) (hz.2 _ (List.mem_of_getElem? hz_cutS_l_6_j)) | exact refPut_sz hz (by omega) (hz.2 _ (List.mem_of_getElem? hz_cutS_l_6_j)) | exact refPut_sz (hz.take _) (by rw [List.length_take]; omega) (hz.2 _ (List.mem_of_getElem? hz_cutS_l_6_j)) | exact szl_one (rfind_sz hz) | exact szl_one (refFind_sz hz) | exact SzL.len (hz) | exact SzL.seens (hz) | exact SzL.both (hz) | exact SzL.len (hz.take _) | exact SzL.seens (hz.take _) | exact SzL.both (hz.take _) | exact SzL.len (rput_sz hz (by omega) (hz.2 _ (List.mem_of_getElem? hz_cutS_l_6_j))) | exact SzL.seens (rput_sz hz (by omega) (hz.2 _ (List.mem_of_getElem? hz_cutS_l_6_j))) | exact SzL.both (rput_sz hz (by omega) (hz.2 _ (List.mem_of_getElem? hz_cutS_l_6_j))) | exact SzL.len (rput_sz (hz.take _) (by rw [List.length_take]; omega) (hz.2 _ (List.mem_of_getElem? hz_cutS_l_6_j))) | exact SzL.seens (rput_sz (hz.take _) (by rw [List.length_take]; omega) (hz.2 _ (List.mem_of_getElem? hz_cutS_l_6_j))) | exact SzL.both (rput_sz (hz.take _) (by rw [List.length_take]; omega) (hz.2 _ (List.mem_of_getElem? hz_cutS_l_6_j))) | exact SzL.len (szl_one (rfind_sz hz)) | exact SzL.seens (szl_one (rfind_sz hz)) | exact SzL.both (szl_one (rfind_sz hz)) | exact SzL.len (szl_one (refFind_sz hz)) | exact SzL.seens (szl_one (refFind_sz hz)) | exact SzL.both (szl_one (refFind_sz hz)) | exact SzR.s (hz.2 _ (List.mem_of_getElem? hz_cutS_l_6_j)) | exact SzR.f (hz.2 _ (List.mem_of_getElem? hz_cutS_l_6_j)) | (simp only [List.length_take]; omega)) (by first | assumption | omega | exact hz | exact hz.take _ | exact rput_sz hz (by omega) (hz.2 _ (List.mem_of_getElem? hz_cutS_l_6_j)) | exact rput_sz (hz.take _) (by rw [List.length_take]; omega) (hz.2 _ (List.mem_of_getElem? hz_cutS_l_6_j)) | exact refPut_sz hz (by omega) (hz.2 _ (List.mem_of_getElem? hz_cutS_l_6_j)) | exact refPut_sz (hz.take _) (by rw [List.length_take]; omega) (hz.2 _ (List.mem_of_getElem? hz_cutS_l_6_j)) | exact szl_one (rfind_sz hz) | exact szl_one (refFind_sz hz) | exact SzL.len (hz) | exact SzL.seens (hz) | exact SzL.both (hz) | exact SzL.len (hz.take _) | exact SzL.seens (hz.take _) | exact SzL.both (hz.take _) | exact SzL.len (rput_sz hz (by omega) (hz.2 _ (List.mem_of_getElem? hz_cutS_l_6_j))) | exact SzL.seens (rput_sz hz (by omega) (hz.2 _ (List.mem_of_getElem? hz_cutS_l_6_j))) | exact SzL.both (rput_sz hz (by omega) (hz.2 _ (List.mem_of_getElem? hz_cutS_l_6_j))) | exact SzL.len (rput_sz (hz.take _) (by rw [List.length_take]; omega) (hz.2 _ (List.mem_of_getElem? hz_cutS_l_6_j))) | exact SzL.seens (rput_sz (hz.take _) (by rw [List.length_take]; omega) (hz.2 _ (List.mem_of_getElem? hz_cutS_l_6_j))) | exact SzL.both (rput_sz (hz.take _) (by rw [List.length_take]; omega) (hz.2 _ (List.mem_of_getElem? hz_cutS_l_6_j))) | exact SzL.len (szl_one (rfind_sz hz)) | exact SzL.seens (szl_one (rfind_sz hz)) | exact SzL.both (szl_one (rfind_sz hz)) | exact SzL.len (szl_one (refFind_sz hz)) | exact SzL.seens (szl_one (refFind_sz hz)) | exact SzL.both (szl_one (refFind_sz hz)) | exact SzR.s (hz.2 _ (List.mem_of_getElem? hz_cutS_l_6_j)) | exact SzR.f (hz.2 _ (List.mem_of_getElem? hz_cutS_l_6_j)) | (simp only [List.length_take]; omega))) ⟨(hf184.mono hl188), hf193⟩ ?_
      intro w195 hS194
      refine WL.val1 (R_cast (R_not (b := sameSeens (((rlookS ((mapS files 8 120)) ns))) ((refLookS ((mapS files 8 120)) ns))) rfl) (bool_false (by rw [look_eq hsrt, sameSeens_refl]; rfl))) ?_
      refine WL.nil ?_
      refine then_normal ?_
      refine WC.condF rfl ?_
      refine WC.skip ?_
      refine then_normal ?_
      refine WC.seq ?_
      refine WC.seq ?_
      refine WC.region ?_
      refine WL.val1 (R_assign (v := .int .i64 (0)) rfl) ?_
      refine WL.nil ?_
      refine then_normal ?_
      refine WC.block ?_
      refine WC.loopL (σ := Nat)
        (fun (q_ : Nat) => (fun (j : Nat) => [(0, .slice (a7) ((cutS l 6)).length (c8)), (7, .slice (a16) ((mapS files 8 120)).length (c17)), (8, .slice (ns_a) (ns).length (ns_c)), (10, .int .i64 (((j : Nat) : Int)))]) (q_))
        (fun (q_ : Nat) (w_ : World) => (fun (j : Nat) => ∃ h198 : Hp, h187.le h198 ∧ St Γ h198 (emp :: L) w_ ∧ (j ≤ (cutS l 6).length)) (q_))
        (fun (q_ : Nat) => (fun (j : Nat) => (cutS l 6).length - j) (q_)) (0) ?_ ?_ ?_
      · exact ⟨rfl, rfl, rfl, (by first | rfl | (apply congrArg (Value.int .i64); omega) | simp), trivial⟩
      · exact ⟨h187, Hp.le_refl _, hS194, (by first | assumption | omega | simp)⟩
      · rintro j r200 w197 ⟨h198, hl199, hS196, g1⟩
        try dsimp only at g1
        refine WC.seq ?_
        refine WC.seq ?_
        refine WC.region ?_
        refine WL.val1 (R_move (v := .int .i64 (((j : Nat) : Int))) rfl) ?_
        refine WL.val1 (R_move (v := .slice (a7) ((cutS l 6)).length (c8)) rfl) ?_
        refine WL.val1 (R_len_slice (n := ((cutS l 6)).length) rfl Tryd.underlying22) ?_
        refine WL.val1 (R_lss (a := ((j : Nat) : Int)) (b := ((((cutS l 6)).length : Nat) : Int)) rfl rfl) ?_
        refine WL.nil ?_
        refine then_normal ?_
        refine WC.condP (((j : Nat) : Int) < ((((cutS l 6)).length : Nat) : Int)) rfl (fun c2 => ?_) (fun c2 => ?_)
        · skip
          refine WC.skip ?_
          refine then_normal ?_
          refine WC.seq ?_
          refine WC.block ?_
          refine WC.seq ?_
          obtain ⟨z_cutS_l_6_j, hz_cutS_l_6_j⟩ : ∃ z, ((cutS l 6))[j]? = some z := ⟨_, List.getElem?_eq_getElem (by omega)⟩
          obtain ⟨b213, o214, cs218, ha215, hr216, hat217⟩ := (hf9.mono ((((((hl13.trans hl24).trans hl164).trans hl170).trans hl179).trans hl188).trans hl199)).2 j z_cutS_l_6_j hz_cutS_l_6_j
          obtain ⟨a219, c220, a221, c222, rfl, hs223, hs224⟩ := hr216
          refine WC.drawN (J := (fun (_ : Nat) => (fun h_ _ w_ => St Γ h_ (emp :: L) w_ : Hp → (Nat → Value) → World → Prop))) 50 [] [] [] [(0, .slice (a7) ((cutS l 6)).length (c8)), (7, .slice (a16) ((mapS files 8 120)).length (c17)), (8, .slice (ns_a) (ns).length (ns_c)), (10, .int .i64 (((j : Nat) : Int)))] ((fun _ v => v = .slice (a7) ((cutS l 6)).length (c8)) :: (fun _ v => v = .int .i64 (((j : Nat) : Int))) :: (fun _ v => v = .pointer (some ⟨b213, (o214 + j * RRec.n), none⟩)) :: (fun _ v => v = .agg #[.string (B (z_cutS_l_6_j.name)), .slice (a219) (z_cutS_l_6_j.seens).length (c220), .slice (a221) (z_cutS_l_6_j.files).length (c222)]) :: (fun _ v => v = .slice (a16) ((mapS files 8 120)).length (c17)) :: (fun _ v => v = .bool (freshS z_cutS_l_6_j ((mapS files 8 120)))) :: (fun _ v => v = .slice (a7) ((cutS l 6)).length (c8)) :: (fun h v => ∃ (a0_ : Option Addr) (c0_ : Nat), v = .slice (a0_) (((cutS l 6))).length (c0_) ∧ Sl RRec2 h (((cutS l 6))) (a0_) (c0_)) :: (fun _ v => v = .int .i64 (((j : Nat) : Int))) :: (fun h v => ∃ (b0_ : Nat) (o0_ : Nat) (cs0_ : List Value), v = .pointer (some ⟨b0_, o0_, none⟩) ∧ RRec2.rel h z_cutS_l_6_j cs0_ ∧ At h b0_ o0_ cs0_) :: (fun h v => ∃ (a0_ : Option Addr) (c0_ : Nat) (a2_ : Option Addr) (c2_ : Nat), v = .agg #[.string (B (z_cutS_l_6_j.name)), .slice (a0_) (z_cutS_l_6_j.seens).length (c0_), .slice (a2_) (z_cutS_l_6_j.files).length (c2_)] ∧ Sl RSeen2 h (z_cutS_l_6_j.seens) (a0_) (c0_) ∧ Sl RFile h (z_cutS_l_6_j.files) (a2_) (c2_)) :: (fun _ v => v = .slice (a16) ((mapS files 8 120)).length (c17)) :: (fun _ v => v = .bool (refFreshS z_cutS_l_6_j ((mapS files 8 120)))) :: (fun _ v => v = .bool (false)) :: (fun _ v => v = .bool (false)) :: (fun _ v => v = .slice (a7) ((cutS l 6)).length (c8)) :: (fun _ v => v = .slice (a7) ((cutS l 6)).length (c8)) :: (fun _ v => v = .int .i64 (((j : Nat) : Int))) :: (fun _ v => v = .pointer (some ⟨b213, (o214 + j * RRec.n), none⟩)) :: (fun _ v => v = .agg #[.string (B (z_cutS_l_6_j.name)), .slice (a219) (z_cutS_l_6_j.seens).length (c220), .slice (a221) (z_cutS_l_6_j.files).length (c222)]) :: (fun h v => ∃ (a0_ : Option Addr) (c0_ : Nat), v = .slice (a0_) ((rputS ((cutS l 6)) z_cutS_l_6_j)).length (c0_) ∧ Sl RRec h ((rputS ((cutS l 6)) z_cutS_l_6_j)) (a0_) (c0_)) :: (fun h v => ∃ (a0_ : Option Addr) (c0_ : Nat), v = .slice (a0_) (((rputS ((cutS l 6)) z_cutS_l_6_j))).length (c0_) ∧ Sl RRec2 h (((rputS ((cutS l 6)) z_cutS_l_6_j))) (a0_) (c0_)) :: (fun _ v => v = .slice (a7) ((cutS l 6)).length (c8)) :: (fun h v => ∃ (a0_ : Option Addr) (c0_ : Nat), v = .slice (a0_) (((cutS l 6))).length (c0_) ∧ Sl RRec2 h (((cutS l 6))) (a0_) (c0_)) :: (fun _ v => v = .slice (a7) ((cutS l 6)).length (c8)) :: (fun h v => ∃ (a0_ : Option Addr) (c0_ : Nat), v = .slice (a0_) (((cutS l 6))).length (c0_) ∧ Sl RRec2 h (((cutS l 6))) (a0_) (c0_)) :: (fun _ v => v = .int .i64 (((j : Nat) : Int))) :: (fun h v => ∃ (b0_ : Nat) (o0_ : Nat) (cs0_ : List Value), v = .pointer (some ⟨b0_, o0_, none⟩) ∧ RRec2.rel h z_cutS_l_6_j cs0_ ∧ At h b0_ o0_ cs0_) :: (fun h v => ∃ (a0_ : Option Addr) (c0_ : Nat) (a2_ : Option Addr) (c2_ : Nat), v = .agg #[.string (B (z_cutS_l_6_j.name)), .slice (a0_) (z_cutS_l_6_j.seens).length (c0_), .slice (a2_) (z_cutS_l_6_j.files).length (c2_)] ∧ Sl RSeen2 h (z_cutS_l_6_j.seens) (a0_) (c0_) ∧ Sl RFile h (z_cutS_l_6_j.files) (a2_) (c2_)) :: (fun h v => ∃ (a0_ : Option Addr) (c0_ : Nat), v = .slice (a0_) ((refPutF z_cutS_l_6_j false (((cutS l 6))))).length (c0_) ∧ Sl RRec2 h ((refPutF z_cutS_l_6_j false (((cutS l 6))))) (a0_) (c0_)) :: (fun _ v => v = .bool (sameS (((rputS ((cutS l 6)) z_cutS_l_6_j))) ((refPutF z_cutS_l_6_j false (((cutS l 6))))))) :: (fun _ v => v = .bool (false)) :: (fun _ v => v = .bool (false)) :: (fun _ v => v = .bool (false)) :: (fun _ v => v = .slice (a7) ((cutS l 6)).length (c8)) :: (fun _ v => v = .int .i64 (((j : Nat) : Int))) :: (fun h v => ∃ (a0_ : Option Addr) (c0_ : Nat), v = .slice (a0_) (((cutS l 6).take j)).length (c0_) ∧ Sl RRec h (((cutS l 6).take j)) (a0_) (c0_)) :: (fun _ v => v = .slice (a7) ((cutS l 6)).length (c8)) :: (fun _ v => v = .int .i64 (((j : Nat) : Int))) :: (fun _ v => v = .pointer (some ⟨b213, (o214 + j * RRec.n), none⟩)) :: (fun _ v => v = .agg #[.string (B (z_cutS_l_6_j.name)), .slice (a219) (z_cutS_l_6_j.seens).length (c220), .slice (a221) (z_cutS_l_6_j.files).length (c222)]) :: (fun h v => ∃ (a0_ : Option Addr) (c0_ : Nat), v = .slice (a0_) ((rputS (((cutS l 6).take j)) z_cutS_l_6_j)).length (c0_) ∧ Sl RRec h ((rputS (((cutS l 6).take j)) z_cutS_l_6_j)) (a0_) (c0_)) :: (fun h v => ∃ (a0_ : Option Addr) (c0_ : Nat), v = .slice (a0_) (((rputS (((cutS l 6).take j)) z_cutS_l_6_j))).length (c0_) ∧ Sl RRec2 h (((rputS (((cutS l 6).take j)) z_cutS_l_6_j))) (a0_) (c0_)) :: (fun _ v => v = .slice (a7) ((cutS l 6)).length (c8)) :: (fun _ v => v = .int .i64 (((j : Nat) : Int))) :: (fun h v => ∃ (a0_ : Option Addr) (c0_ : Nat), v = .slice (a0_) (((cutS l 6).take j)).length (c0_) ∧ Sl RRec h (((cutS l 6).take j)) (a0_) (c0_)) :: (fun h v => ∃ (a0_ : Option Addr) (c0_ : Nat), v = .slice (a0_) ((((cutS l 6).take j))).length (c0_) ∧ Sl RRec2 h ((((cutS l 6).take j))) (a0_) (c0_)) :: (fun _ v => v = .slice (a7) ((cutS l 6)).length (c8)) :: (fun h v => ∃ (a0_ : Option Addr) (c0_ : Nat), v = .slice (a0_) (((cutS l 6))).length (c0_) ∧ Sl RRec2 h (((cutS l 6))) (a0_) (c0_)) :: (fun _ v => v = .int .i64 (((j : Nat) : Int))) :: []) hS196 (fun _ _ _ _ e_ k_ => St.ext k_ e_) (by kernel_rfl) (by kernel_rfl) (by decide) (MonoFs.pure (MonoFs.pure (MonoFs.pure (MonoFs.pure (MonoFs.pure (MonoFs.pure (MonoFs.pure (MonoFs.cons (fun _ _ _ hl ⟨x0, x1, e, y0⟩ => ⟨x0, x1, e, y0.mono hl⟩) (MonoFs.pure (MonoFs.cons (fun _ _ _ hl ⟨x0, x1, x2, e, y0, y1⟩ => ⟨x0, x1, x2, e, RRec2.mono _ _ _ _ hl y0, y1.mono hl⟩) (MonoFs.cons (fun _ _ _ hl ⟨x0, x1, x2, x3, e, y0, y1⟩ => ⟨x0, x1, x2, x3, e, y0.mono hl, y1.mono hl⟩) (MonoFs.pure (MonoFs.pure (MonoFs.pure (MonoFs.pure (MonoFs.pure (MonoFs.pure (MonoFs.pure (MonoFs.pure (MonoFs.pure (MonoFs.cons (fun _ _ _ hl ⟨x0, x1, e, y0⟩ => ⟨x0, x1, e, y0.mono hl⟩) (MonoFs.cons (fun _ _ _ hl ⟨x0, x1, e, y0⟩ => ⟨x0, x1, e, y0.mono hl⟩) (MonoFs.pure (MonoFs.cons (fun _ _ _ hl ⟨x0, x1, e, y0⟩ => ⟨x0, x1, e, y0.mono hl⟩) (MonoFs.pure (MonoFs.cons (fun _ _ _ hl ⟨x0, x1, e, y0⟩ => ⟨x0, x1, e, y0.mono hl⟩) (MonoFs.pure (MonoFs.cons (fun _ _ _ hl ⟨x0, x1, x2, e, y0, y1⟩ => ⟨x0, x1, x2, e, RRec2.mono _ _ _ _ hl y0, y1.mono hl⟩) (MonoFs.cons (fun _ _ _ hl ⟨x0, x1, x2, x3, e, y0, y1⟩ => ⟨x0, x1, x2, x3, e, y0.mono hl, y1.mono hl⟩) (MonoFs.cons (fun _ _ _ hl ⟨x0, x1, e, y0⟩ => ⟨x0, x1, e, y0.mono hl⟩) (MonoFs.pure (MonoFs.pure (MonoFs.pure (MonoFs.pure (MonoFs.pure (MonoFs.pure (MonoFs.cons (fun _ _ _ hl ⟨x0, x1, e, y0⟩ => ⟨x0, x1, e, y0.mono hl⟩) (MonoFs.pure (MonoFs.pure (MonoFs.pure (MonoFs.pure (MonoFs.cons (fun _ _ _ hl ⟨x0, x1, e, y0⟩ => ⟨x0, x1, e, y0.mono hl⟩) (MonoFs.cons (fun _ _ _ hl ⟨x0, x1, e, y0⟩ => ⟨x0, x1, e, y0.mono hl⟩) (MonoFs.pure (MonoFs.pure (MonoFs.cons (fun _ _ _ hl ⟨x0, x1, e, y0⟩ => ⟨x0, x1, e, y0.mono hl⟩) (MonoFs.cons (fun _ _ _ hl ⟨x0, x1, e, y0⟩ => ⟨x0, x1, e, y0.mono hl⟩) (MonoFs.pure (MonoFs.cons (fun _ _ _ hl ⟨x0, x1, e, y0⟩ => ⟨x0, x1, e, y0.mono hl⟩) (MonoFs.pure MonoFs.nil)))))))))))))))))))))))))))))))))))))))))))))))))) ⟨rfl, rfl, rfl, rfl, trivial⟩ ⟨?_, ?_, ?_, ?_, ?_, ?_, ?_, ?_, ?_, ?_, ?_, ?_, ?_, ?_, ?_, ?_, ?_, ?_, ?_, ?_, ?_, ?_, ?_, ?_, ?_, ?_, ?_, ?_, ?_, ?_, ?_, ?_, ?_, ?_, ?_, ?_, ?_, ?_, ?_, ?_, ?_, ?_, ?_, ?_, ?_, ?_, ?_, ?_, ?_, ?_, trivial⟩ ?_
          · refine stepN1 (a := 0) (b := 0) rfl rfl ?_
            · intro r_ w694 h695 hl696 hJ_ hb_ hp_
              have hS693 := hJ_
              obtain ⟨b0_, b1_, b2_, b3_, _⟩ := hb_
              refine WL.val1 (R_move (v := .slice (a7) ((cutS l 6)).length (c8)) b0_) ?_
              refine WL.nil ?_
              exact ⟨rfl, _, _, rfl, (Hp.le_refl _), rfl, hS693⟩
          · refine stepN1 (a := 0) (b := 0) rfl rfl ?_
            · intro r_ w698 h699 hl700 hJ_ hb_ hp_
              have hS697 := hJ_
              obtain ⟨b0_, b1_, b2_, b3_, _⟩ := hb_
              refine WL.val1 (R_move (v := .int .i64 (((j : Nat) : Int))) b3_) ?_
              refine WL.nil ?_
              exact ⟨rfl, _, _, rfl, (Hp.le_refl _), rfl, hS697⟩
          · refine stepN1 (a := 0) (b := 0) rfl rfl ?_
            · intro r_ w702 h703 hl704 hJ_ hb_ hp_
              have hS701 := hJ_
              obtain ⟨b0_, b1_, b2_, b3_, _⟩ := hb_
              obtain ⟨p0_, p1_, _⟩ := hp_
              have p0_ : r_ 60 = .slice (a7) ((cutS l 6)).length (c8) := p0_
              have p1_ : r_ 61 = .int .i64 (((j : Nat) : Int)) := p1_
              refine WL.val1 (R_indexAddrE (i := ((j : Nat) : Int)) (m := j) ha215 p0_ p1_ Tryd.underlying22 (Tryd.sizeOf35 _) (by first | rfl | (omega)) (by omega)) ?_
              refine WL.nil ?_
              exact ⟨rfl, _, _, rfl, (Hp.le_refl _), rfl, hS701⟩
          · refine stepN1 (a := 0) (b := 0) rfl rfl ?_
            · intro r_ w706 h707 hl708 hJ_ hb_ hp_
              have hS705 := hJ_
              obtain ⟨b0_, b1_, b2_, b3_, _⟩ := hb_
              obtain ⟨p0_, _⟩ := hp_
              have p0_ : r_ 62 = .pointer (some ⟨b213, (o214 + j * RRec.n), none⟩) := p0_
              refine WL.val1 (R_loadCA (cs := [.string (B (z_cutS_l_6_j.name)), .slice (a219) (z_cutS_l_6_j.seens).length (c220), .slice (a221) (z_cutS_l_6_j.files).length (c222)]) hS705 p0_ (hat217.mono hl708) Tryd.isAgg35 Tryd.sizeOf35 rfl) ?_
              refine WL.nil ?_
              exact ⟨rfl, _, _, rfl, (Hp.le_refl _), rfl, hS705⟩
          · refine stepN1 (a := 0) (b := 0) rfl rfl ?_
            · intro r_ w710 h711 hl712 hJ_ hb_ hp_
              have hS709 := hJ_
              obtain ⟨b0_, b1_, b2_, b3_, _⟩ := hb_
              refine WL.val1 (R_move (v := .slice (a16) ((mapS files 8 120)).length (c17)) b1_) ?_
              refine WL.nil ?_
              exact ⟨rfl, _, _, rfl, (Hp.le_refl _), rfl, hS709⟩
          · refine stepN1 (a := 0) (b := 0) rfl rfl ?_
            · intro r_ w714 h715 hl716 hJ_ hb_ hp_
              have hS713 := hJ_
              obtain ⟨b0_, b1_, b2_, b3_, _⟩ := hb_
              obtain ⟨p0_, p1_, _⟩ := hp_
              have p0_ : r_ 63 = .agg #[.string (B (z_cutS_l_6_j.name)), .slice (a219) (z_cutS_l_6_j.seens).length (c220), .slice (a221) (z_cutS_l_6_j.files).length (c222)] := p0_
              have p1_ : r_ 64 = .slice (a16) ((mapS files 8 120)).length (c17) := p1_
              refine S_callP (vs := [.agg #[.string (B (z_cutS_l_6_j.name)), .slice (a219) (z_cutS_l_6_j.seens).length (c220), .slice (a221) (z_cutS_l_6_j.files).length (c222)], .slice (a16) ((mapS files 8 120)).length (c17)]) hS713 Tryd.call10 (hmap2 p0_ p1_) (rec_Fresh (z_cutS_l_6_j) (a219) (c220) (a221) (c222) ((mapS files 8 120)) (a16) (c17) (by first | assumption | omega | exact hz | exact hz.take _ | exact rput_sz hz (by omega) (hz.2 _ (List.mem_of_getElem? hz_cutS_l_6_j)) | exact rput_sz (hz.take _) (by rw [List.length_take]; omega) (hz.2 _ (List.mem_of_getElem? hz_cutS_l_6_j)) | exact refPut_sz hz (by omega) (hz.2 _ (List.mem_of_getElem? hz_cutS_l_6_j)) | exact refPut_sz (hz.take _) (by rw [List.length_take]; omega) (hz.2 _ (List.mem_of_getElem? hz_cutS_l_6_j)) | exact szl_one (rfind_sz hz) | exact szl_one (refFind_sz hz) | exact SzL.len (hz) | exact SzL.seens (hz) | exact SzL.both (hz) | exact SzL.len (hz.take _) | exact SzL.seens (hz.take _) | exact SzL.both (hz.take _) | exact SzL.len (rput_sz hz (by omega) (hz.2 _ (List.mem_of_getElem? hz_cutS_l_6_j))) | exact SzL.seens (rput_sz hz (by omega) (hz.2 _ (List.mem_of_getElem? hz_cutS_l_6_j))) | exact SzL.both (rput_sz hz (by omega) (hz.2 _ (List.mem_of_getElem? hz_cutS_l_6_j))) | exact SzL.len (rput_sz (hz.take _) (by rw [List.length_take]; omega) (hz.2 _ (List.mem_of_getElem? hz_cutS_l_6_j))) | exact SzL.seens (rput_sz (hz.take _) (by rw [List.length_take]; omega) (hz.2 _ (List.mem_of_getElem? hz_cutS_l_6_j))) | exact SzL.both (rput_sz (hz.take _) (by rw [List.length_take]; omega) (hz.2 _ (List.mem_of_getElem? hz_cutS_l_6_j))) | exact SzL.len (szl_one (rfind_sz hz)) | exact SzL.seens (szl_one (rfind_sz hz)) | exact SzL.both (szl_one (rfind_sz hz)) | exact SzL.len (szl_one (refFind_sz hz)) | exact SzL.seens (szl_one (refFind_sz hz)) | exact SzL.both (szl_one (refFind_sz hz)) | exact SzR.s (hz.2 _ (List.mem_of_getElem? hz_cutS_l_6_j)) | exact SzR.f (hz.2 _ (List.mem_of_getElem? hz_cutS_l_6_j)) | (simp only [List.length_take]; omega)) (by first | assumption | omega | exact hz | exact hz.take _ | exact rput_sz hz (by omega) (hz.2 _ (List.mem_of_getElem? hz_cutS_l_6_j)) | exact rput_sz (hz.take _) (by rw [List.length_take]; omega) (hz.2 _ (List.mem_of_getElem? hz_cutS_l_6_j)) | exact refPut_sz hz (by omega) (hz.2 _ (List.mem_of_getElem? hz_cutS_l_6_j)) | exact refPut_sz (hz.take _) (by rw [List.length_take]; omega) (hz.2 _ (List.mem_of_getElem? hz_cutS_l_6_j)) | exact szl_one (rfind_sz hz) | exact szl_one (refFind_sz hz) | exact SzL.len (hz) | exact SzL.seens (hz) | exact SzL.both (hz) | exact SzL.len (hz.take _) | exact SzL.seens (hz.take _) | exact SzL.both (hz.take _) | exact SzL.len (rput_sz hz (by omega) (hz.2 _ (List.mem_of_getElem? hz_cutS_l_6_j))) | exact SzL.seens (rput_sz hz (by omega) (hz.2 _ (List.mem_of_getElem? hz_cutS_l_6_j))) | exact SzL.both (rput_sz hz (by omega) (hz.2 _ (List.mem_of_getElem? hz_cutS_l_6_j))) | exact SzL.len (rput_sz (hz.take _) (by rw [List.length_take]; omega) (hz.2 _ (List.mem_of_getElem? hz_cutS_l_6_j))) | exact SzL.seens (rput_sz (hz.take _) (by rw [List.length_take]; omega) (hz.2 _ (List.mem_of_getElem? hz_cutS_l_6_j))) | exact SzL.both (rput_sz (hz.take _) (by rw [List.length_take]; omega) (hz.2 _ (List.mem_of_getElem? hz_cutS_l_6_j))) | exact SzL.len (szl_one (rfind_sz hz)) | exact SzL.seens (szl_one (rfind_sz hz)) | exact SzL.both (szl_one (rfind_sz hz)) | exact SzL.len (szl_one (refFind_sz hz)) | exact SzL.seens (szl_one (refFind_sz hz)) | exact SzL.both (szl_one (refFind_sz hz)) | exact SzR.s (hz.2 _ (List.mem_of_getElem? hz_cutS_l_6_j)) | exact SzR.f (hz.2 _ (List.mem_of_getElem? hz_cutS_l_6_j)) | (simp only [List.length_take]; omega)) (by first | assumption | omega | exact hz | exact hz.take _ | exact rput_sz hz (by omega) (hz.2 _ (List.mem_of_getElem? hz_cutS_l_6_j)) | exact rput_sz (hz.take _) (by rw [List.length_take]; omega) (hz.2 _ (List.mem_of_getElem? hz_cutS_l_6_j)) | exact refPut_sz hz (by omega) (hz.2 _ (List.mem_of_getElem? hz_cutS_l_6_j)) | exact refPut_sz (hz.take _) (by rw [List.length_take]; omega) (hz.2 _ (List.mem_of_getElem? hz_cutS_l_6_j)) | exact szl_one (rfind_sz hz) | exact szl_one (refFind_sz hz) | exact SzL.len (hz) | exact SzL.seens (hz) | exact SzL.both (hz) | exact SzL.len (hz.take _) | exact SzL.seens (hz.take _) | exact SzL.both (hz.take _) | exact SzL.len (rput_sz hz (by omega) (hz.2 _ (List.mem_of_getElem? hz_cutS_l_6_j))) | exact SzL.seens (rput_sz hz (by omega) (hz.2 _ (List.mem_of_getElem? hz_cutS_l_6_j))) | exact SzL.both (rput_sz hz (by omega) (hz.2 _ (List.mem_of_getElem? hz_cutS_l_6_j))) | exact SzL.len (rput_sz (hz.take _) (by rw [List.length_take]; omega) (hz.2 _ (List.mem_of_getElem? hz_cutS_l_6_j))) | exact SzL.seens (rput_sz (hz.take _) (by rw [List.length_take]; omega) (hz.2 _ (List.mem_of_getElem? hz_cutS_l_6_j))) | exact SzL.both (rput_sz (hz.take _) (by rw [List.length_take]; omega) (hz.2 _ (List.mem_of_getElem? hz_cutS_l_6_j))) | exact SzL.len (szl_one (rfind_sz hz)) | exact SzL.seens (szl_one (rfind_sz hz)) | exact SzL.both (szl_one (rfind_sz hz)) | exact SzL.len (szl_one (refFind_sz hz)) | exact SzL.seens (szl_one (refFind_sz hz)) | exact SzL.both (szl_one (refFind_sz hz)) | exact SzR.s (hz.2 _ (List.mem_of_getElem? hz_cutS_l_6_j)) | exact SzR.f (hz.2 _ (List.mem_of_getElem? hz_cutS_l_6_j)) | (simp only [List.length_take]; omega))) ⟨(hs223.mono hl716), (hs224.mono hl716), (hf18.mono ((((((hl24.trans hl164).trans hl170).trans hl179).trans hl188).trans hl199).trans hl716))⟩ ?_
              intro w718 hS717
              refine WL.nil ?_
              exact ⟨rfl, _, _, rfl, (Hp.le_refl _), rfl, hS717⟩
          · refine stepN1 (a := 0) (b := 0) rfl rfl ?_
            · intro r_ w720 h721 hl722 hJ_ hb_ hp_
              have hS719 := hJ_
              obtain ⟨b0_, b1_, b2_, b3_, _⟩ := hb_
              refine WL.val1 (R_move (v := .slice (a7) ((cutS l 6)).length (c8)) b0_) ?_
              refine WL.nil ?_
              exact ⟨rfl, _, _, rfl, (Hp.le_refl _), rfl, hS719⟩
          · refine stepN1 (a := 0) (b := 0) rfl rfl ?_
            · intro r_ w724 h725 hl726 hJ_ hb_ hp_
              have hS723 := hJ_
              obtain ⟨b0_, b1_, b2_, b3_, _⟩ := hb_
              obtain ⟨p0_, p1_, _⟩ := hp_
              have p0_ : r_ 66 = .slice (a7) ((cutS l 6)).length (c8) := p0_
              have p1_ : r_ 65 = .bool (freshS z_cutS_l_6_j ((mapS files 8 120))) := p1_
              refine S_callF (vs := [.slice (a7) ((cutS l 6)).length (c8)]) hS723 Tryd.call12 (hmap1 p0_) (law_Refs ((cutS l 6)) (a7) (c8) (by first | assumption | omega | exact hz | exact hz.take _ | exact rput_sz hz (by omega) (hz.2 _ (List.mem_of_getElem? hz_cutS_l_6_j)) | exact rput_sz (hz.take _) (by rw [List.length_take]; omega) (hz.2 _ (List.mem_of_getElem? hz_cutS_l_6_j)) | exact refPut_sz hz (by omega) (hz.2 _ (List.mem_of_getElem? hz_cutS_l_6_j)) | exact refPut_sz (hz.take _) (by rw [List.length_take]; omega) (hz.2 _ (List.mem_of_getElem? hz_cutS_l_6_j)) | exact szl_one (rfind_sz hz) | exact szl_one (refFind_sz hz) | exact SzL.len (hz) | exact SzL.seens (hz) | exact SzL.both (hz) | exact SzL.len (hz.take _) | exact SzL.seens (hz.take _) | exact SzL.both (hz.take _) | exact SzL.len (rput_sz hz (by omega) (hz.2 _ (List.mem_of_getElem? hz_cutS_l_6_j))) | exact SzL.seens (rput_sz hz (by omega) (hz.2 _ (List.mem_of_getElem? hz_cutS_l_6_j))) | exact SzL.both (rput_sz hz (by omega) (hz.2 _ (List.mem_of_getElem? hz_cutS_l_6_j))) | exact SzL.len (rput_sz (hz.take _) (by rw [List.length_take]; omega) (hz.2 _ (List.mem_of_getElem? hz_cutS_l_6_j))) | exact SzL.seens (rput_sz (hz.take _) (by rw [List.length_take]; omega) (hz.2 _ (List.mem_of_getElem? hz_cutS_l_6_j))) | exact SzL.both (rput_sz (hz.take _) (by rw [List.length_take]; omega) (hz.2 _ (List.mem_of_getElem? hz_cutS_l_6_j))) | exact SzL.len (szl_one (rfind_sz hz)) | exact SzL.seens (szl_one (rfind_sz hz)) | exact SzL.both (szl_one (rfind_sz hz)) | exact SzL.len (szl_one (refFind_sz hz)) | exact SzL.seens (szl_one (refFind_sz hz)) | exact SzL.both (szl_one (refFind_sz hz)) | exact SzR.s (hz.2 _ (List.mem_of_getElem? hz_cutS_l_6_j)) | exact SzR.f (hz.2 _ (List.mem_of_getElem? hz_cutS_l_6_j)) | (simp only [List.length_take]; omega)) (by first | assumption | omega | exact hz | exact hz.take _ | exact rput_sz hz (by omega) (hz.2 _ (List.mem_of_getElem? hz_cutS_l_6_j)) | exact rput_sz (hz.take _) (by rw [List.length_take]; omega) (hz.2 _ (List.mem_of_getElem? hz_cutS_l_6_j)) | exact refPut_sz hz (by omega) (hz.2 _ (List.mem_of_getElem? hz_cutS_l_6_j)) | exact refPut_sz (hz.take _) (by rw [List.length_take]; omega) (hz.2 _ (List.mem_of_getElem? hz_cutS_l_6_j)) | exact szl_one (rfind_sz hz) | exact szl_one (refFind_sz hz) | exact SzL.len (hz) | exact SzL.seens (hz) | exact SzL.both (hz) | exact SzL.len (hz.take _) | exact SzL.seens (hz.take _) | exact SzL.both (hz.take _) | exact SzL.len (rput_sz hz (by omega) (hz.2 _ (List.mem_of_getElem? hz_cutS_l_6_j))) | exact SzL.seens (rput_sz hz (by omega) (hz.2 _ (List.mem_of_getElem? hz_cutS_l_6_j))) | exact SzL.both (rput_sz hz (by omega) (hz.2 _ (List.mem_of_getElem? hz_cutS_l_6_j))) | exact SzL.len (rput_sz (hz.take _) (by rw [List.length_take]; omega) (hz.2 _ (List.mem_of_getElem? hz_cutS_l_6_j))) | exact SzL.seens (rput_sz (hz.take _) (by rw [List.length_take]; omega) (hz.2 _ (List.mem_of_getElem? hz_cutS_l_6_j))) | exact SzL.both (rput_sz (hz.take _) (by rw [List.length_take]; omega) (hz.2 _ (List.mem_of_getElem? hz_cutS_l_6_j))) | exact SzL.len (szl_one (rfind_sz hz)) | exact SzL.seens (szl_one (rfind_sz hz)) | exact SzL.both (szl_one (rfind_sz hz)) | exact SzL.len (szl_one (refFind_sz hz)) | exact SzL.seens (szl_one (refFind_sz hz)) | exact SzL.both (szl_one (refFind_sz hz)) | exact SzR.s (hz.2 _ (List.mem_of_getElem? hz_cutS_l_6_j)) | exact SzR.f (hz.2 _ (List.mem_of_getElem? hz_cutS_l_6_j)) | (simp only [List.length_take]; omega))) (hf9.mono (((((((hl13.trans hl24).trans hl164).trans hl170).trans hl179).trans hl188).trans hl199).trans hl726)) ?_
              intro h729 v731 w728 hl730 hp732 hS727
              obtain ⟨a733, c734, rfl, hf735⟩ := hp732
              refine WL.nil ?_
              exact ⟨rfl, _, _, rfl, hl730, ⟨a733, c734, rfl, hf735⟩, hS727⟩
          · refine stepN1 (a := 0) (b := 0) rfl rfl ?_
            · intro r_ w740 h741 hl742 hJ_ hb_ hp_
              have hS739 := hJ_
              obtain ⟨b0_, b1_, b2_, b3_, _⟩ := hb_
              refine WL.val1 (R_move (v := .int .i64 (((j : Nat) : Int))) b3_) ?_
              refine WL.nil ?_
              exact ⟨rfl, _, _, rfl, (Hp.le_refl _), rfl, hS739⟩
          · refine stepN1 (a := 0) (b := 0) rfl rfl ?_
            · intro r_ w744 h745 hl746 hJ_ hb_ hp_
              have hS743 := hJ_
              obtain ⟨b0_, b1_, b2_, b3_, _⟩ := hb_
              obtain ⟨p0_, p1_, _⟩ := hp_
              obtain ⟨a747, c748, p0_, hs749⟩ := p0_
              have p1_ : r_ 68 = .int .i64 (((j : Nat) : Int)) := p1_
              obtain ⟨b750, o751, cs752, ha753, hr754, hat755⟩ := hs749.2 j z_cutS_l_6_j hz_cutS_l_6_j
              refine WL.val1 (R_indexAddrE (i := ((j : Nat) : Int)) (m := j) ha753 p0_ p1_ Tryd.underlying39 (Tryd.sizeOf38 _) (by first | rfl | (omega)) (by omega)) ?_
              refine WL.nil ?_
              exact ⟨rfl, _, _, rfl, (Hp.le_refl _), ⟨b750, (o751 + j * RRec2.n), _, rfl, hr754, hat755⟩, hS743⟩
          · refine stepN1 (a := 0) (b := 0) rfl rfl ?_
            · intro r_ w762 h763 hl764 hJ_ hb_ hp_
              have hS761 := hJ_
              obtain ⟨b0_, b1_, b2_, b3_, _⟩ := hb_
              obtain ⟨p0_, _⟩ := hp_
              obtain ⟨b765, o766, cs767, p0_, hr768, hat769⟩ := p0_
              obtain ⟨a770, c771, a772, c773, rfl, hs774, hs775⟩ := hr768
              refine WL.val1 (R_loadCA (cs := [.string (B (z_cutS_l_6_j.name)), .slice (a770) (z_cutS_l_6_j.seens).length (c771), .slice (a772) (z_cutS_l_6_j.files).length (c773)]) hS761 p0_ hat769 Tryd.isAgg38 Tryd.sizeOf38 rfl) ?_
              refine WL.nil ?_
              exact ⟨rfl, _, _, rfl, (Hp.le_refl _), ⟨a770, c771, a772, c773, rfl, hs774, hs775⟩, hS761⟩
          · refine stepN1 (a := 0) (b := 0) rfl rfl ?_
            · intro r_ w783 h784 hl785 hJ_ hb_ hp_
              have hS782 := hJ_
              obtain ⟨b0_, b1_, b2_, b3_, _⟩ := hb_
              refine WL.val1 (R_move (v := .slice (a16) ((mapS files 8 120)).length (c17)) b1_) ?_
              refine WL.nil ?_
              exact ⟨rfl, _, _, rfl, (Hp.le_refl _), rfl, hS782⟩
          · refine stepN1 (a := 0) (b := 0) rfl rfl ?_
            · intro r_ w787 h788 hl789 hJ_ hb_ hp_
              have hS786 := hJ_
              obtain ⟨b0_, b1_, b2_, b3_, _⟩ := hb_
              obtain ⟨p0_, p1_, p2_, _⟩ := hp_
              obtain ⟨a790, c791, a793, c794, p0_, hs792, hs795⟩ := p0_
              have p1_ : r_ 71 = .slice (a16) ((mapS files 8 120)).length (c17) := p1_
              obtain ⟨a796, c797, p2_, hs798⟩ := p2_
              refine S_callP (vs := [.agg #[.string (B (z_cutS_l_6_j.name)), .slice (a790) (z_cutS_l_6_j.seens).length (c791), .slice (a793) (z_cutS_l_6_j.files).length (c794)], .slice (a16) ((mapS files 8 120)).length (c17)]) hS786 Tryd.call11 (hmap2 p0_ p1_) (ref20_Fresh (z_cutS_l_6_j) (a790) (c791) (a793) (c794) ((mapS files 8 120)) (a16) (c17) (by first | assumption | omega | exact hz | exact hz.take _ | exact rput_sz hz (by omega) (hz.2 _ (List.mem_of_getElem? hz_cutS_l_6_j)) | exact rput_sz (hz.take _) (by rw [List.length_take]; omega) (hz.2 _ (List.mem_of_getElem? hz_cutS_l_6_j)) | exact refPut_sz hz (by omega) (hz.2 _ (List.mem_of_getElem? hz_cutS_l_6_j)) | exact refPut_sz (hz.take _) (by rw [List.length_take]; omega) (hz.2 _ (List.mem_of_getElem? hz_cutS_l_6_j)) | exact szl_one (rfind_sz hz) | exact szl_one (refFind_sz hz) | exact SzL.len (hz) | exact SzL.seens (hz) | exact SzL.both (hz) | exact SzL.len (hz.take _) | exact SzL.seens (hz.take _) | exact SzL.both (hz.take _) | exact SzL.len (rput_sz hz (by omega) (hz.2 _ (List.mem_of_getElem? hz_cutS_l_6_j))) | exact SzL.seens (rput_sz hz (by omega) (hz.2 _ (List.mem_of_getElem? hz_cutS_l_6_j))) | exact SzL.both (rput_sz hz (by omega) (hz.2 _ (List.mem_of_getElem? hz_cutS_l_6_j))) | exact SzL.len (rput_sz (hz.take _) (by rw [List.length_take]; omega) (hz.2 _ (List.mem_of_getElem? hz_cutS_l_6_j))) | exact SzL.seens (rput_sz (hz.take _) (by rw [List.length_take]; omega) (hz.2 _ (List.mem_of_getElem? hz_cutS_l_6_j))) | exact SzL.both (rput_sz (hz.take _) (by rw [List.length_take]; omega) (hz.2 _ (List.mem_of_getElem? hz_cutS_l_6_j))) | exact SzL.len (szl_one (rfind_sz hz)) | exact SzL.seens (szl_one (rfind_sz hz)) | exact SzL.both (szl_one (rfind_sz hz)) | exact SzL.len (szl_one (refFind_sz hz)) | exact SzL.seens (szl_one (refFind_sz hz)) | exact SzL.both (szl_one (refFind_sz hz)) | exact SzR.s (hz.2 _ (List.mem_of_getElem? hz_cutS_l_6_j)) | exact SzR.f (hz.2 _ (List.mem_of_getElem? hz_cutS_l_6_j)) | (simp only [List.length_take]; omega)) (by first | assumption | omega | exact hz | exact hz.take _ | exact rput_sz hz (by omega) (hz.2 _ (List.mem_of_getElem? hz_cutS_l_6_j)) | exact rput_sz (hz.take _) (by rw [List.length_take]; omega) (hz.2 _ (List.mem_of_getElem? hz_cutS_l_6_j)) | exact refPut_sz hz (by omega) (hz.2 _ (List.mem_of_getElem? hz_cutS_l_6_j)) | exact refPut_sz (hz.take _) (by rw [List.length_take]; omega) (hz.2 _ (List.mem_of_getElem? hz_cutS_l_6_j)) | exact szl_one (rfind_sz hz) | exact szl_one (refFind_sz hz) | exact SzL.len (hz) | exact SzL.seens (hz) | exact SzL.both (hz) | exact SzL.len (hz.take _) | exact SzL.seens (hz.take _) | exact SzL.both (hz.take _) | exact SzL.len (rput_sz hz (by omega) (hz.2 _ (List.mem_of_getElem? hz_cutS_l_6_j))) | exact SzL.seens (rput_sz hz (by omega) (hz.2 _ (List.mem_of_getElem? hz_cutS_l_6_j))) | exact SzL.both (rput_sz hz (by omega) (hz.2 _ (List.mem_of_getElem? hz_cutS_l_6_j))) | exact SzL.len (rput_sz (hz.take _) (by rw [List.length_take]; omega) (hz.2 _ (List.mem_of_getElem? hz_cutS_l_6_j))) | exact SzL.seens (rput_sz (hz.take _) (by rw [List.length_take]; omega) (hz.2 _ (List.mem_of_getElem? hz_cutS_l_6_j))) | exact SzL.both (rput_sz (hz.take _) (by rw [List.length_take]; omega) (hz.2 _ (List.mem_of_getElem? hz_cutS_l_6_j))) | exact SzL.len (szl_one (rfind_sz hz)) | exact SzL.seens (szl_one (rfind_sz hz)) | exact SzL.both (szl_one (rfind_sz hz)) | exact SzL.len (szl_one (refFind_sz hz)) | exact SzL.seens (szl_one (refFind_sz hz)) | exact SzL.both (szl_one (refFind_sz hz)) | exact SzR.s (hz.2 _ (List.mem_of_getElem? hz_cutS_l_6_j)) | exact SzR.f (hz.2 _ (List.mem_of_getElem? hz_cutS_l_6_j)) | (simp only [List.length_take]; omega)) (by first | assumption | omega | exact hz | exact hz.take _ | exact rput_sz hz (by omega) (hz.2 _ (List.mem_of_getElem? hz_cutS_l_6_j)) | exact rput_sz (hz.take _) (by rw [List.length_take]; omega) (hz.2 _ (List.mem_of_getElem? hz_cutS_l_6_j)) | exact refPut_sz hz (by omega) (hz.2 _ (List.mem_of_getElem? hz_cutS_l_6_j)) | exact refPut_sz (hz.take _) (by rw [List.length_take]; omega) (hz.2 _ (List.mem_of_getElem? hz_cutS_l_6_j)) | exact szl_one (rfind_sz hz) | exact szl_one (refFind_sz hz) | exact SzL.len (hz) | exact SzL.seens (hz) | exact SzL.both (hz) | exact SzL.len (hz.take _) | exact SzL.seens (hz.take _) | exact SzL.both (hz.take _) | exact SzL.len (rput_sz hz (by omega) (hz.2 _ (List.mem_of_getElem? hz_cutS_l_6_j))) | exact SzL.seens (rput_sz hz (by omega) (hz.2 _ (List.mem_of_getElem? hz_cutS_l_6_j))) | exact SzL.both (rput_sz hz (by omega) (hz.2 _ (List.mem_of_getElem? hz_cutS_l_6_j))) | exact SzL.len (rput_sz (hz.take _) (by rw [List.length_take]; omega) (hz.2 _ (List.mem_of_getElem? hz_cutS_l_6_j))) | exact SzL.seens (rput_sz (hz.take _) (by rw [List.length_take]; omega) (hz.2 _ (List.mem_of_getElem? hz_cutS_l_6_j))) | exact SzL.both (rput_sz (hz.take _) (by rw [List.length_take]; omega) (hz.2 _ (List.mem_of_getElem? hz_cutS_l_6_j))) | exact SzL.len (szl_one (rfind_sz hz)) | exact SzL.seens (szl_one (rfind_sz hz)) | exact SzL.both (szl_one (rfind_sz hz)) | exact SzL.len (szl_one (refFind_sz hz)) | exact SzL.seens (szl_one (refFind_sz hz)) | exact SzL.both (szl_one (refFind_sz hz)) | exact SzR.s (hz.2 _ (List.mem_of_getElem? hz_cutS_l_6_j)) | exact SzR.f (hz.2 _ (List.mem_of_getElem? hz_cutS_l_6_j)) | (simp only [List.length_take]; omega))) ⟨hs792, hs795, (hf18.mono ((((((hl24.trans hl164).trans hl170).trans hl179).trans hl188).trans hl199).trans hl789))⟩ ?_
              intro w800 hS799
              refine WL.nil ?_
              exact ⟨rfl, _, _, rfl, (Hp.le_refl _), rfl, hS799⟩
          · refine stepN1 (a := 0) (b := 0) rfl rfl ?_
            · intro r_ w802 h803 hl804 hJ_ hb_ hp_
              have hS801 := hJ_
              obtain ⟨b0_, b1_, b2_, b3_, _⟩ := hb_
              obtain ⟨p0_, p1_, _⟩ := hp_
              have p0_ : r_ 65 = .bool (freshS z_cutS_l_6_j ((mapS files 8 120))) := p0_
              have p1_ : r_ 72 = .bool (refFreshS z_cutS_l_6_j ((mapS files 8 120))) := p1_
              refine WL.val1 (R_cast (R_bneq (a := freshS z_cutS_l_6_j ((mapS files 8 120))) (b := refFreshS z_cutS_l_6_j ((mapS files 8 120))) p0_ p1_ Tryd.underlying4) (bool_false (by rw [fresh_eq hsrt]; simp))) ?_
              refine WL.nil ?_
              exact ⟨rfl, _, _, rfl, (Hp.le_refl _), rfl, hS801⟩
          · refine stepN1 (a := 0) (b := 0) rfl rfl ?_
            · intro r_ w806 h807 hl808 hJ_ hb_ hp_
              have hS805 := hJ_
              obtain ⟨b0_, b1_, b2_, b3_, _⟩ := hb_
              obtain ⟨p0_, p1_, _⟩ := hp_
              have p0_ : r_ 73 = .bool (false) := p0_
              have p1_ : r_ 72 = .bool (refFreshS z_cutS_l_6_j ((mapS files 8 120))) := p1_
              refine WL.val1 (R_move (v := .bool (false)) p0_) ?_
              refine WL.nil ?_
              exact ⟨rfl, _, _, rfl, (Hp.le_refl _), rfl, hS805⟩
          · refine stepN1 (a := 0) (b := 0) rfl rfl ?_
            · intro r_ w810 h811 hl812 hJ_ hb_ hp_
              have hS809 := hJ_
              obtain ⟨b0_, b1_, b2_, b3_, _⟩ := hb_
              obtain ⟨p0_, _⟩ := hp_
              have p0_ : r_ 74 = .bool (false) := p0_
              refine WL_unguard (yl_eq (d := 74) rfl p0_) ?_
              refine WL.val1 (R_move (v := .slice (a7) ((cutS l 6)).length (c8)) b0_) ?_
              refine WL.nil ?_
              exact ⟨rfl, _, _, rfl, (Hp.le_refl _), rfl, hS809⟩
          · refine stepN1 (a := 0) (b := 0) rfl rfl ?_
            · intro r_ w814 h815 hl816 hJ_ hb_ hp_
              have hS813 := hJ_
              obtain ⟨b0_, b1_, b2_, b3_, _⟩ := hb_
              obtain ⟨p0_, _⟩ := hp_
              have p0_ : r_ 74 = .bool (false) := p0_
              refine WL_unguard (yl_eq (d := 74) rfl p0_) ?_
              refine WL.val1 (R_move (v := .slice (a7) ((cutS l 6)).length (c8)) b0_) ?_
              refine WL.nil ?_
              exact ⟨rfl, _, _, rfl, (Hp.le_refl _), rfl, hS813⟩
          · refine stepN1 (a := 0) (b := 0) rfl rfl ?_
            · intro r_ w818 h819 hl820 hJ_ hb_ hp_
              have hS817 := hJ_
              obtain ⟨b0_, b1_, b2_, b3_, _⟩ := hb_
              obtain ⟨p0_, _⟩ := hp_
              have p0_ : r_ 74 = .bool (false) := p0_
              refine WL_unguard (yl_eq (d := 74) rfl p0_) ?_
              refine WL.val1 (R_move (v := .int .i64 (((j : Nat) : Int))) b3_) ?_
              refine WL.nil ?_
              exact ⟨rfl, _, _, rfl, (Hp.le_refl _), rfl, hS817⟩
          · refine stepN1 (a := 0) (b := 0) rfl rfl ?_
            · intro r_ w822 h823 hl824 hJ_ hb_ hp_
              have hS821 := hJ_
              obtain ⟨b0_, b1_, b2_, b3_, _⟩ := hb_
              obtain ⟨p0_, p1_, p2_, _⟩ := hp_
              have p0_ : r_ 76 = .slice (a7) ((cutS l 6)).length (c8) := p0_
              have p1_ : r_ 77 = .int .i64 (((j : Nat) : Int)) := p1_
              have p2_ : r_ 74 = .bool (false) := p2_
              refine WL_unguard (yl_eq (d := 74) rfl p2_) ?_
              refine WL.val1 (R_indexAddrE (i := ((j : Nat) : Int)) (m := j) ha215 p0_ p1_ Tryd.underlying22 (Tryd.sizeOf35 _) (by first | rfl | (omega)) (by omega)) ?_
              refine WL.nil ?_
              exact ⟨rfl, _, _, rfl, (Hp.le_refl _), rfl, hS821⟩
          · refine stepN1 (a := 0) (b := 0) rfl rfl ?_
            · intro r_ w826 h827 hl828 hJ_ hb_ hp_
              have hS825 := hJ_
              obtain ⟨b0_, b1_, b2_, b3_, _⟩ := hb_
              obtain ⟨p0_, p1_, _⟩ := hp_
              have p0_ : r_ 78 = .pointer (some ⟨b213, (o214 + j * RRec.n), none⟩) := p0_
              have p1_ : r_ 74 = .bool (false) := p1_
              refine WL_unguard (yl_eq (d := 74) rfl p1_) ?_
              refine WL.val1 (R_loadCA (cs := [.string (B (z_cutS_l_6_j.name)), .slice (a219) (z_cutS_l_6_j.seens).length (c220), .slice (a221) (z_cutS_l_6_j.files).length (c222)]) hS825 p0_ (hat217.mono hl828) Tryd.isAgg35 Tryd.sizeOf35 rfl) ?_
              refine WL.nil ?_
              exact ⟨rfl, _, _, rfl, (Hp.le_refl _), rfl, hS825⟩
          · refine stepN1 (a := 0) (b := 0) rfl rfl ?_
            · intro r_ w830 h831 hl832 hJ_ hb_ hp_
              have hS829 := hJ_
              obtain ⟨b0_, b1_, b2_, b3_, _⟩ := hb_
              obtain ⟨p0_, p1_, p2_, p3_, _⟩ := hp_
              have p0_ : r_ 75 = .slice (a7) ((cutS l 6)).length (c8) := p0_
              have p1_ : r_ 79 = .agg #[.string (B (z_cutS_l_6_j.name)), .slice (a219) (z_cutS_l_6_j.seens).length (c220), .slice (a221) (z_cutS_l_6_j.files).length (c222)] := p1_
              have p2_ : r_ 74 = .bool (false) := p2_
              have p3_ : r_ 74 = .bool (false) := p3_
              refine WL_unguard (yl_eq (d := 74) rfl p3_) ?_
              refine S_callF (vs := [.slice (a7) ((cutS l 6)).length (c8), .agg #[.string (B (z_cutS_l_6_j.name)), .slice (a219) (z_cutS_l_6_j.seens).length (c220), .slice (a221) (z_cutS_l_6_j.files).length (c222)]]) hS829 Tryd.call14 (hmap2 p0_ p1_) (rec_Put ((cutS l 6)) (a7) (c8) (z_cutS_l_6_j) (a219) (c220) (a221) (c222) (by first | assumption | omega | exact hz | exact hz.take _ | exact rput_sz hz (by omega) (hz.2 _ (List.mem_of_getElem? hz_cutS_l_6_j)) | exact rput_sz (hz.take _) (by rw [List.length_take]; omega) (hz.2 _ (List.mem_of_getElem? hz_cutS_l_6_j)) | exact refPut_sz hz (by omega) (hz.2 _ (List.mem_of_getElem? hz_cutS_l_6_j)) | exact refPut_sz (hz.take _) (by rw [List.length_take]; omega) (hz.2 _ (List.mem_of_getElem? hz_cutS_l_6_j)) | exact szl_one (rfind_sz hz) | exact szl_one (refFind_sz hz) | exact SzL.len (hz) | exact SzL.seens (hz) | exact SzL.both (hz) | exact SzL.len (hz.take _) | exact SzL.seens (hz.take _) | exact SzL.both (hz.take _) | exact SzL.len (rput_sz hz (by omega) (hz.2 _ (List.mem_of_getElem? hz_cutS_l_6_j))) | exact SzL.seens (rput_sz hz (by omega) (hz.2 _ (List.mem_of_getElem? hz_cutS_l_6_j))) | exact SzL.both (rput_sz hz (by omega) (hz.2 _ (List.mem_of_getElem? hz_cutS_l_6_j))) | exact SzL.len (rput_sz (hz.take _) (by rw [List.length_take]; omega) (hz.2 _ (List.mem_of_getElem? hz_cutS_l_6_j))) | exact SzL.seens (rput_sz (hz.take _) (by rw [List.length_take]; omega) (hz.2 _ (List.mem_of_getElem? hz_cutS_l_6_j))) | exact SzL.both (rput_sz (hz.take _) (by rw [List.length_take]; omega) (hz.2 _ (List.mem_of_getElem? hz_cutS_l_6_j))) | exact SzL.len (szl_one (rfind_sz hz)) | exact SzL.seens (szl_one (rfind_sz hz)) | exact SzL.both (szl_one (rfind_sz hz)) | exact SzL.len (szl_one (refFind_sz hz)) | exact SzL.seens (szl_one (refFind_sz hz)) | exact SzL.both (szl_one (refFind_sz hz)) | exact SzR.s (hz.2 _ (List.mem_of_getElem? hz_cutS_l_6_j)) | exact SzR.f (hz.2 _ (List.mem_of_getElem? hz_cutS_l_6_j)) | (simp only [List.length_take]; omega)) (by first | assumption | omega | exact hz | exact hz.take _ | exact rput_sz hz (by omega) (hz.2 _ (List.mem_of_getElem? hz_cutS_l_6_j)) | exact rput_sz (hz.take _) (by rw [List.length_take]; omega) (hz.2 _ (List.mem_of_getElem? hz_cutS_l_6_j)) | exact refPut_sz hz (by omega) (hz.2 _ (List.mem_of_getElem? hz_cutS_l_6_j)) | exact refPut_sz (hz.take _) (by rw [List.length_take]; omega) (hz.2 _ (List.mem_of_getElem? hz_cutS_l_6_j)) | exact szl_one (rfind_sz hz) | exact szl_one (refFind_sz hz) | exact SzL.len (hz) | exact SzL.seens (hz) | exact SzL.both (hz) | exact SzL.len (hz.take _) | exact SzL.seens (hz.take _) | exact SzL.both (hz.take _) | exact SzL.len (rput_sz hz (by omega) (hz.2 _ (List.mem_of_getElem? hz_cutS_l_6_j))) | exact SzL.seens (rput_sz hz (by omega) (hz.2 _ (List.mem_of_getElem? hz_cutS_l_6_j))) | exact SzL.both (rput_sz hz (by omega) (hz.2 _ (List.mem_of_getElem? hz_cutS_l_6_j))) | exact SzL.len (rput_sz (hz.take _) (by rw [List.length_take]; omega) (hz.2 _ (List.mem_of_getElem? hz_cutS_l_6_j))) | exact SzL.seens (rput_sz (hz.take _) (by rw [List.length_take]; omega) (hz.2 _ (List.mem_of_getElem? hz_cutS_l_6_j))) | exact SzL.both (rput_sz (hz.take _) (by rw [List.length_take]; omega) (hz.2 _ (List.mem_of_getElem? hz_cutS_l_6_j))) | exact SzL.len (szl_one (rfind_sz hz)) | exact SzL.seens (szl_one (rfind_sz hz)) | exact SzL.both (szl_one (rfind_sz hz)) | exact SzL.len (szl_one (refFind_sz hz)) | exact SzL.seens (szl_one (refFind_sz hz)) | exact SzL.both (szl_one (refFind_sz hz)) | exact SzR.s (hz.2 _ (List.mem_of_getElem? hz_cutS_l_6_j)) | exact SzR.f (hz.2 _ (List.mem_of_getElem? hz_cutS_l_6_j)) | (simp only [List.length_take]; omega)) (by first | assumption | omega | exact hz | exact hz.take _ | exact rput_sz hz (by omega) (hz.2 _ (List.mem_of_getElem? hz_cutS_l_6_j)) | exact rput_sz (hz.take _) (by rw [List.length_take]; omega) (hz.2 _ (List.mem_of_getElem? hz_cutS_l_6_j)) | exact refPut_sz hz (by omega) (hz.2 _ (List.mem_of_getElem? hz_cutS_l_6_j)) | exact refPut_sz (hz.take _) (by rw [List.length_take]; omega) (hz.2 _ (List.mem_of_getElem? hz_cutS_l_6_j)) | exact szl_one (rfind_sz hz) | exact szl_one (refFind_sz hz) | exact SzL.len (hz) | exact SzL.seens (hz) | exact SzL.both (hz) | exact SzL.len (hz.take _) | exact SzL.seens (hz.take _) | exact SzL.both (hz.take _) | exact SzL.len (rput_sz hz (by omega) (hz.2 _ (List.mem_of_getElem? hz_cutS_l_6_j))) | exact SzL.seens (rput_sz hz (by omega) (hz.2 _ (List.mem_of_getElem? hz_cutS_l_6_j))) | exact SzL.both (rput_sz hz (by omega) (hz.2 _ (List.mem_of_getElem? hz_cutS_l_6_j))) | exact SzL.len (rput_sz (hz.take _) (by rw [List.length_take]; omega) (hz.2 _ (List.mem_of_getElem? hz_cutS_l_6_j))) | exact SzL.seens (rput_sz (hz.take _) (by rw [List.length_take]; omega) (hz.2 _ (List.mem_of_getElem? hz_cutS_l_6_j))) | exact SzL.both (rput_sz (hz.take _) (by rw [List.length_take]; omega) (hz.2 _ (List.mem_of_getElem? hz_cutS_l_6_j))) | exact SzL.len (szl_one (rfind_sz hz)) | exact SzL.seens (szl_one (rfind_sz hz)) | exact SzL.both (szl_one (rfind_sz hz)) | exact SzL.len (szl_one (refFind_sz hz)) | exact SzL.seens (szl_one (refFind_sz hz)) | exact SzL.both (szl_one (refFind_sz hz)) | exact SzR.s (hz.2 _ (List.mem_of_getElem? hz_cutS_l_6_j)) | exact SzR.f (hz.2 _ (List.mem_of_getElem? hz_cutS_l_6_j)) | (simp only [List.length_take]; omega)) (by first | assumption | omega | exact hz | exact hz.take _ | exact rput_sz hz (by omega) (hz.2 _ (List.mem_of_getElem? hz_cutS_l_6_j)) | exact rput_sz (hz.take _) (by rw [List.length_take]; omega) (hz.2 _ (List.mem_of_getElem? hz_cutS_l_6_j)) | exact refPut_sz hz (by omega) (hz.2 _ (List.mem_of_getElem? hz_cutS_l_6_j)) | exact refPut_sz (hz.take _) (by rw [List.length_take]; omega) (hz.2 _ (List.mem_of_getElem? hz_cutS_l_6_j)) | exact szl_one (rfind_sz hz) | exact szl_one (refFind_sz hz) | exact SzL.len (hz) | exact SzL.seens (hz) | exact SzL.both (hz) | exact SzL.len (hz.take _) | exact SzL.seens (hz.take _) | exact SzL.both (hz.take _) | exact SzL.len (rput_sz hz (by omega) (hz.2 _ (List.mem_of_getElem? hz_cutS_l_6_j))) | exact SzL.seens (rput_sz hz (by omega) (hz.2 _ (List.mem_of_getElem? hz_cutS_l_6_j))) | exact SzL.both (rput_sz hz (by omega) (hz.2 _ (List.mem_of_getElem? hz_cutS_l_6_j))) | exact SzL.len (rput_sz (hz.take _) (by rw [List.length_take]; omega) (hz.2 _ (List.mem_of_getElem? hz_cutS_l_6_j))) | exact SzL.seens (rput_sz (hz.take _) (by rw [List.length_take]; omega) (hz.2 _ (List.mem_of_getElem? hz_cutS_l_6_j))) | exact SzL.both (rput_sz (hz.take _) (by rw [List.length_take]; omega) (hz.2 _ (List.mem_of_getElem? hz_cutS_l_6_j))) | exact SzL.len (szl_one (rfind_sz hz)) | exact SzL.seens (szl_one (rfind_sz hz)) | exact SzL.both (szl_one (rfind_sz hz)) | exact SzL.len (szl_one (refFind_sz hz)) | exact SzL.seens (szl_one (refFind_sz hz)) | exact SzL.both (szl_one (refFind_sz hz)) | exact SzR.s (hz.2 _ (List.mem_of_getElem? hz_cutS_l_6_j)) | exact SzR.f (hz.2 _ (List.mem_of_getElem? hz_cutS_l_6_j)) | (simp only [List.length_take]; omega))) ⟨(hf9.mono (((((((hl13.trans hl24).trans hl164).trans hl170).trans hl179).trans hl188).trans hl199).trans hl832)), (hs223.mono hl832), (hs224.mono hl832)⟩ ?_
              intro h835 v837 w834 hl836 hp838 hS833
              obtain ⟨a839, c840, rfl, hf841⟩ := hp838
              refine WL.nil ?_
              exact ⟨rfl, _, _, rfl, hl836, ⟨a839, c840, rfl, hf841⟩, hS833⟩
          · refine stepN1 (a := 0) (b := 0) rfl rfl ?_
            · intro r_ w846 h847 hl848 hJ_ hb_ hp_
              have hS845 := hJ_
              obtain ⟨b0_, b1_, b2_, b3_, _⟩ := hb_
              obtain ⟨p0_, p1_, p2_, _⟩ := hp_
              obtain ⟨a849, c850, p0_, hs851⟩ := p0_
              obtain ⟨a852, c853, p1_, hs854⟩ := p1_
              have p2_ : r_ 74 = .bool (false) := p2_
              refine WL_unguard (yl_eq (d := 74) rfl p2_) ?_
              refine S_callF (vs := [.slice (a852) ((rputS ((cutS l 6)) z_cutS_l_6_j)).length (c853)]) hS845 Tryd.call12 (hmap1 p1_) (law_Refs ((rputS ((cutS l 6)) z_cutS_l_6_j)) (a852) (c853) (by first | assumption | omega | exact hz | exact hz.take _ | exact rput_sz hz (by omega) (hz.2 _ (List.mem_of_getElem? hz_cutS_l_6_j)) | exact rput_sz (hz.take _) (by rw [List.length_take]; omega) (hz.2 _ (List.mem_of_getElem? hz_cutS_l_6_j)) | exact refPut_sz hz (by omega) (hz.2 _ (List.mem_of_getElem? hz_cutS_l_6_j)) | exact refPut_sz (hz.take _) (by rw [List.length_take]; omega) (hz.2 _ (List.mem_of_getElem? hz_cutS_l_6_j)) | exact szl_one (rfind_sz hz) | exact szl_one (refFind_sz hz) | exact SzL.len (hz) | exact SzL.seens (hz) | exact SzL.both (hz) | exact SzL.len (hz.take _) | exact SzL.seens (hz.take _) | exact SzL.both (hz.take _) | exact SzL.len (rput_sz hz (by omega) (hz.2 _ (List.mem_of_getElem? hz_cutS_l_6_j))) | exact SzL.seens (rput_sz hz (by omega) (hz.2 _ (List.mem_of_getElem? hz_cutS_l_6_j))) | exact SzL.both (rput_sz hz (by omega) (hz.2 _ (List.mem_of_getElem? hz_cutS_l_6_j))) | exact SzL.len (rput_sz (hz.take _) (by rw [List.length_take]; omega) (hz.2 _ (List.mem_of_getElem? hz_cutS_l_6_j))) | exact SzL.seens (rput_sz (hz.take _) (by rw [List.length_take]; omega) (hz.2 _ (List.mem_of_getElem? hz_cutS_l_6_j))) | exact SzL.both (rput_sz (hz.take _) (by rw [List.length_take]; omega) (hz.2 _ (List.mem_of_getElem? hz_cutS_l_6_j))) | exact SzL.len (szl_one (rfind_sz hz)) | exact SzL.seens (szl_one (rfind_sz hz)) | exact SzL.both (szl_one (rfind_sz hz)) | exact SzL.len (szl_one (refFind_sz hz)) | exact SzL.seens (szl_one (refFind_sz hz)) | exact SzL.both (szl_one (refFind_sz hz)) | exact SzR.s (hz.2 _ (List.mem_of_getElem? hz_cutS_l_6_j)) | exact SzR.f (hz.2 _ (List.mem_of_getElem? hz_cutS_l_6_j)) | (simp only [List.length_take]; omega)) (by first | assumption | omega | exact hz | exact hz.take _ | exact rput_sz hz (by omega) (hz.2 _ (List.mem_of_getElem? hz_cutS_l_6_j)) | exact rput_sz (hz.take _) (by rw [List.length_take]; omega) (hz.2 _ (List.mem_of_getElem? hz_cutS_l_6_j)) | exact refPut_sz hz (by omega) (hz.2 _ (List.mem_of_getElem? hz_cutS_l_6_j)) | exact refPut_sz (hz.take _) (by rw [List.length_take]; omega) (hz.2 _ (List.mem_of_getElem? hz_cutS_l_6_j)) | exact szl_one (rfind_sz hz) | exact szl_one (refFind_sz hz) | exact SzL.len (hz) | exact SzL.seens (hz) | exact SzL.both (hz) | exact SzL.len (hz.take _) | exact SzL.seens (hz.take _) | exact SzL.both (hz.take _) | exact SzL.len (rput_sz hz (by omega) (hz.2 _ (List.mem_of_getElem? hz_cutS_l_6_j))) | exact SzL.seens (rput_sz hz (by omega) (hz.2 _ (List.mem_of_getElem? hz_cutS_l_6_j))) | exact SzL.both (rput_sz hz (by omega) (hz.2 _ (List.mem_of_getElem? hz_cutS_l_6_j))) | exact SzL.len (rput_sz (hz.take _) (by rw [List.length_take]; omega) (hz.2 _ (List.mem_of_getElem? hz_cutS_l_6_j))) | exact SzL.seens (rput_sz (hz.take _) (by rw [List.length_take]; omega) (hz.2 _ (List.mem_of_getElem? hz_cutS_l_6_j))) | exact SzL.both (rput_sz (hz.take _) (by rw [List.length_take]; omega) (hz.2 _ (List.mem_of_getElem? hz_cutS_l_6_j))) | exact SzL.len (szl_one (rfind_sz hz)) | exact SzL.seens (szl_one (rfind_sz hz)) | exact SzL.both (szl_one (rfind_sz hz)) | exact SzL.len (szl_one (refFind_sz hz)) | exact SzL.seens (szl_one (refFind_sz hz)) | exact SzL.both (szl_one (refFind_sz hz)) | exact SzR.s (hz.2 _ (List.mem_of_getElem? hz_cutS_l_6_j)) | exact SzR.f (hz.2 _ (List.mem_of_getElem? hz_cutS_l_6_j)) | (simp only [List.length_take]; omega))) hs854 ?_
              intro h857 v859 w856 hl858 hp860 hS855
              obtain ⟨a861, c862, rfl, hf863⟩ := hp860
              refine WL.nil ?_
              exact ⟨rfl, _, _, rfl, hl858, ⟨a861, c862, rfl, hf863⟩, hS855⟩
          · refine stepN1 (a := 0) (b := 0) rfl rfl ?_
            · intro r_ w868 h869 hl870 hJ_ hb_ hp_
              have hS867 := hJ_
              obtain ⟨b0_, b1_, b2_, b3_, _⟩ := hb_
              obtain ⟨p0_, _⟩ := hp_
              have p0_ : r_ 74 = .bool (false) := p0_
              refine WL_unguard (yl_eq (d := 74) rfl p0_) ?_
              refine WL.val1 (R_move (v := .slice (a7) ((cutS l 6)).length (c8)) b0_) ?_
              refine WL.nil ?_
              exact ⟨rfl, _, _, rfl, (Hp.le_refl _), rfl, hS867⟩
          · refine stepN1 (a := 0) (b := 0) rfl rfl ?_
            · intro r_ w872 h873 hl874 hJ_ hb_ hp_
              have hS871 := hJ_
              obtain ⟨b0_, b1_, b2_, b3_, _⟩ := hb_
              obtain ⟨p0_, p1_, p2_, _⟩ := hp_
              have p0_ : r_ 82 = .slice (a7) ((cutS l 6)).length (c8) := p0_
              obtain ⟨a875, c876, p1_, hs877⟩ := p1_
              have p2_ : r_ 74 = .bool (false) := p2_
              refine WL_unguard (yl_eq (d := 74) rfl p2_) ?_
              refine S_callF (vs := [.slice (a7) ((cutS l 6)).length (c8)]) hS871 Tryd.call12 (hmap1 p0_) (law_Refs ((cutS l 6)) (a7) (c8) (by first | assumption | omega | exact hz | exact hz.take _ | exact rput_sz hz (by omega) (hz.2 _ (List.mem_of_getElem? hz_cutS_l_6_j)) | exact rput_sz (hz.take _) (by rw [List.length_take]; omega) (hz.2 _ (List.mem_of_getElem? hz_cutS_l_6_j)) | exact refPut_sz hz (by omega) (hz.2 _ (List.mem_of_getElem? hz_cutS_l_6_j)) | exact refPut_sz (hz.take _) (by rw [List.length_take]; omega) (hz.2 _ (List.mem_of_getElem? hz_cutS_l_6_j)) | exact szl_one (rfind_sz hz) | exact szl_one (refFind_sz hz) | exact SzL.len (hz) | exact SzL.seens (hz) | exact SzL.both (hz) | exact SzL.len (hz.take _) | exact SzL.seens (hz.take _) | exact SzL.both (hz.take _) | exact SzL.len (rput_sz hz (by omega) (hz.2 _ (List.mem_of_getElem? hz_cutS_l_6_j))) | exact SzL.seens (rput_sz hz (by omega) (hz.2 _ (List.mem_of_getElem? hz_cutS_l_6_j))) | exact SzL.both (rput_sz hz (by omega) (hz.2 _ (List.mem_of_getElem? hz_cutS_l_6_j))) | exact SzL.len (rput_sz (hz.take _) (by rw [List.length_take]; omega) (hz.2 _ (List.mem_of_getElem? hz_cutS_l_6_j))) | exact SzL.seens (rput_sz (hz.take _) (by rw [List.length_take]; omega) (hz.2 _ (List.mem_of_getElem? hz_cutS_l_6_j))) | exact SzL.both (rput_sz (hz.take _) (by rw [List.length_take]; omega) (hz.2 _ (List.mem_of_getElem? hz_cutS_l_6_j))) | exact SzL.len (szl_one (rfind_sz hz)) | exact SzL.seens (szl_one (rfind_sz hz)) | exact SzL.both (szl_one (rfind_sz hz)) | exact SzL.len (szl_one (refFind_sz hz)) | exact SzL.seens (szl_one (refFind_sz hz)) | exact SzL.both (szl_one (refFind_sz hz)) | exact SzR.s (hz.2 _ (List.mem_of_getElem? hz_cutS_l_6_j)) | exact SzR.f (hz.2 _ (List.mem_of_getElem? hz_cutS_l_6_j)) | (simp only [List.length_take]; omega)) (by first | assumption | omega | exact hz | exact hz.take _ | exact rput_sz hz (by omega) (hz.2 _ (List.mem_of_getElem? hz_cutS_l_6_j)) | exact rput_sz (hz.take _) (by rw [List.length_take]; omega) (hz.2 _ (List.mem_of_getElem? hz_cutS_l_6_j)) | exact refPut_sz hz (by omega) (hz.2 _ (List.mem_of_getElem? hz_cutS_l_6_j)) | exact refPut_sz (hz.take _) (by rw [List.length_take]; omega) (hz.2 _ (List.mem_of_getElem? hz_cutS_l_6_j)) | exact szl_one (rfind_sz hz) | exact szl_one (refFind_sz hz) | exact SzL.len (hz) | exact SzL.seens (hz) | exact SzL.both (hz) | exact SzL.len (hz.take _) | exact SzL.seens (hz.take _) | exact SzL.both (hz.take _) | exact SzL.len (rput_sz hz (by omega) (hz.2 _ (List.mem_of_getElem? hz_cutS_l_6_j))) | exact SzL.seens (rput_sz hz (by omega) (hz.2 _ (List.mem_of_getElem? hz_cutS_l_6_j))) | exact SzL.both (rput_sz hz (by omega) (hz.2 _ (List.mem_of_getElem? hz_cutS_l_6_j))) | exact SzL.len (rput_sz (hz.take _) (by rw [List.length_take]; omega) (hz.2 _ (List.mem_of_getElem? hz_cutS_l_6_j))) | exact SzL.seens (rput_sz (hz.take _) (by rw [List.length_take]; omega) (hz.2 _ (List.mem_of_getElem? hz_cutS_l_6_j))) | exact SzL.both (rput_sz (hz.take _) (by rw [List.length_take]; omega) (hz.2 _ (List.mem_of_getElem? hz_cutS_l_6_j))) | exact SzL.len (szl_one (rfind_sz hz)) | exact SzL.seens (szl_one (rfind_sz hz)) | exact SzL.both (szl_one (rfind_sz hz)) | exact SzL.len (szl_one (refFind_sz hz)) | exact SzL.seens (szl_one (refFind_sz hz)) | exact SzL.both (szl_one (refFind_sz hz)) | exact SzR.s (hz.2 _ (List.mem_of_getElem? hz_cutS_l_6_j)) | exact SzR.f (hz.2 _ (List.mem_of_getElem? hz_cutS_l_6_j)) | (simp only [List.length_take]; omega))) (hf9.mono (((((((hl13.trans hl24).trans hl164).trans hl170).trans hl179).trans hl188).trans hl199).trans hl874)) ?_
              intro h880 v882 w879 hl881 hp883 hS878
              obtain ⟨a884, c885, rfl, hf886⟩ := hp883
              refine WL.nil ?_
              exact ⟨rfl, _, _, rfl, hl881, ⟨a884, c885, rfl, hf886⟩, hS878⟩
          · refine stepN1 (a := 0) (b := 0) rfl rfl ?_
            · intro r_ w891 h892 hl893 hJ_ hb_ hp_
              have hS890 := hJ_
              obtain ⟨b0_, b1_, b2_, b3_, _⟩ := hb_
              obtain ⟨p0_, _⟩ := hp_
              have p0_ : r_ 74 = .bool (false) := p0_
              refine WL_unguard (yl_eq (d := 74) rfl p0_) ?_
              refine WL.val1 (R_move (v := .slice (a7) ((cutS l 6)).length (c8)) b0_) ?_
              refine WL.nil ?_
              exact ⟨rfl, _, _, rfl, (Hp.le_refl _), rfl, hS890⟩
          · refine stepN1 (a := 0) (b := 0) rfl rfl ?_
            · intro r_ w895 h896 hl897 hJ_ hb_ hp_
              have hS894 := hJ_
              obtain ⟨b0_, b1_, b2_, b3_, _⟩ := hb_
              obtain ⟨p0_, p1_, p2_, _⟩ := hp_
              have p0_ : r_ 84 = .slice (a7) ((cutS l 6)).length (c8) := p0_
              obtain ⟨a898, c899, p1_, hs900⟩ := p1_
              have p2_ : r_ 74 = .bool (false) := p2_
              refine WL_unguard (yl_eq (d := 74) rfl p2_) ?_
              refine S_callF (vs := [.slice (a7) ((cutS l 6)).length (c8)]) hS894 Tryd.call12 (hmap1 p0_) (law_Refs ((cutS l 6)) (a7) (c8) (by first | assumption | omega | exact hz | exact hz.take _ | exact rput_sz hz (by omega) (hz.2 _ (List.mem_of_getElem? hz_cutS_l_6_j)) | exact rput_sz (hz.take _) (by rw [List.length_take]; omega) (hz.2 _ (List.mem_of_getElem? hz_cutS_l_6_j)) | exact refPut_sz hz (by omega) (hz.2 _ (List.mem_of_getElem? hz_cutS_l_6_j)) | exact refPut_sz (hz.take _) (by rw [List.length_take]; omega) (hz.2 _ (List.mem_of_getElem? hz_cutS_l_6_j)) | exact szl_one (rfind_sz hz) | exact szl_one (refFind_sz hz) | exact SzL.len (hz) | exact SzL.seens (hz) | exact SzL.both (hz) | exact SzL.len (hz.take _) | exact SzL.seens (hz.take _) | exact SzL.both (hz.take _) | exact SzL.len (rput_sz hz (by omega) (hz.2 _ (List.mem_of_getElem? hz_cutS_l_6_j))) | exact SzL.seens (rput_sz hz (by omega) (hz.2 _ (List.mem_of_getElem? hz_cutS_l_6_j))) | exact SzL.both (rput_sz hz (by omega) (hz.2 _ (List.mem_of_getElem? hz_cutS_l_6_j))) | exact SzL.len (rput_sz (hz.take _) (by rw [List.length_take]; omega) (hz.2 _ (List.mem_of_getElem? hz_cutS_l_6_j))) | exact SzL.seens (rput_sz (hz.take _) (by rw [List.length_take]; omega) (hz.2 _ (List.mem_of_getElem? hz_cutS_l_6_j))) | exact SzL.both (rput_sz (hz.take _) (by rw [List.length_take]; omega) (hz.2 _ (List.mem_of_getElem? hz_cutS_l_6_j))) | exact SzL.len (szl_one (rfind_sz hz)) | exact SzL.seens (szl_one (rfind_sz hz)) | exact SzL.both (szl_one (rfind_sz hz)) | exact SzL.len (szl_one (refFind_sz hz)) | exact SzL.seens (szl_one (refFind_sz hz)) | exact SzL.both (szl_one (refFind_sz hz)) | exact SzR.s (hz.2 _ (List.mem_of_getElem? hz_cutS_l_6_j)) | exact SzR.f (hz.2 _ (List.mem_of_getElem? hz_cutS_l_6_j)) | (simp only [List.length_take]; omega)) (by first | assumption | omega | exact hz | exact hz.take _ | exact rput_sz hz (by omega) (hz.2 _ (List.mem_of_getElem? hz_cutS_l_6_j)) | exact rput_sz (hz.take _) (by rw [List.length_take]; omega) (hz.2 _ (List.mem_of_getElem? hz_cutS_l_6_j)) | exact refPut_sz hz (by omega) (hz.2 _ (List.mem_of_getElem? hz_cutS_l_6_j)) | exact refPut_sz (hz.take _) (by rw [List.length_take]; omega) (hz.2 _ (List.mem_of_getElem? hz_cutS_l_6_j)) | exact szl_one (rfind_sz hz) | exact szl_one (refFind_sz hz) | exact SzL.len (hz) | exact SzL.seens (hz) | exact SzL.both (hz) | exact SzL.len (hz.take _) | exact SzL.seens (hz.take _) | exact SzL.both (hz.take _) | exact SzL.len (rput_sz hz (by omega) (hz.2 _ (List.mem_of_getElem? hz_cutS_l_6_j))) | exact SzL.seens (rput_sz hz (by omega) (hz.2 _ (List.mem_of_getElem? hz_cutS_l_6_j))) | exact SzL.both (rput_sz hz (by omega) (hz.2 _ (List.mem_of_getElem? hz_cutS_l_6_j))) | exact SzL.len (rput_sz (hz.take _) (by rw [List.length_take]; omega) (hz.2 _ (List.mem_of_getElem? hz_cutS_l_6_j))) | exact SzL.seens (rput_sz (hz.take _) (by rw [List.length_take]; omega) (hz.2 _ (List.mem_of_getElem? hz_cutS_l_6_j))) | exact SzL.both (rput_sz (hz.take _) (by rw [List.length_take]; omega) (hz.2 _ (List.mem_of_getElem? hz_cutS_l_6_j))) | exact SzL.len (szl_one (rfind_sz hz)) | exact SzL.seens (szl_one (rfind_sz hz)) | exact SzL.both (szl_one (rfind_sz hz)) | exact SzL.len (szl_one (refFind_sz hz)) | exact SzL.seens (szl_one (refFind_sz hz)) | exact SzL.both (szl_one (refFind_sz hz)) | exact SzR.s (hz.2 _ (List.mem_of_getElem? hz_cutS_l_6_j)) | exact SzR.f (hz.2 _ (List.mem_of_getElem? hz_cutS_l_6_j)) | (simp only [List.length_take]; omega))) (hf9.mono (((((((hl13.trans hl24).trans hl164).trans hl170).trans hl179).trans hl188).trans hl199).trans hl897)) ?_
              intro h903 v905 w902 hl904 hp906 hS901
              obtain ⟨a907, c908, rfl, hf909⟩ := hp906
              refine WL.nil ?_
              exact ⟨rfl, _, _, rfl, hl904, ⟨a907, c908, rfl, hf909⟩, hS901⟩
          · refine stepN1 (a := 0) (b := 0) rfl rfl ?_
            · intro r_ w914 h915 hl916 hJ_ hb_ hp_
              have hS913 := hJ_
              obtain ⟨b0_, b1_, b2_, b3_, _⟩ := hb_
              obtain ⟨p0_, _⟩ := hp_
              have p0_ : r_ 74 = .bool (false) := p0_
              refine WL_unguard (yl_eq (d := 74) rfl p0_) ?_
              refine WL.val1 (R_move (v := .int .i64 (((j : Nat) : Int))) b3_) ?_
              refine WL.nil ?_
              exact ⟨rfl, _, _, rfl, (Hp.le_refl _), rfl, hS913⟩
          · refine stepN1 (a := 0) (b := 0) rfl rfl ?_
            · intro r_ w918 h919 hl920 hJ_ hb_ hp_
              have hS917 := hJ_
              obtain ⟨b0_, b1_, b2_, b3_, _⟩ := hb_
              obtain ⟨p0_, p1_, p2_, _⟩ := hp_
              obtain ⟨a921, c922, p0_, hs923⟩ := p0_
              have p1_ : r_ 86 = .int .i64 (((j : Nat) : Int)) := p1_
              have p2_ : r_ 74 = .bool (false) := p2_
              refine WL_unguard (yl_eq (d := 74) rfl p2_) ?_
              obtain ⟨b924, o925, cs926, ha927, hr928, hat929⟩ := hs923.2 j z_cutS_l_6_j hz_cutS_l_6_j
              refine WL.val1 (R_indexAddrE (i := ((j : Nat) : Int)) (m := j) ha927 p0_ p1_ Tryd.underlying39 (Tryd.sizeOf38 _) (by first | rfl | (omega)) (by omega)) ?_
              refine WL.nil ?_
              exact ⟨rfl, _, _, rfl, (Hp.le_refl _), ⟨b924, (o925 + j * RRec2.n), _, rfl, hr928, hat929⟩, hS917⟩
          · refine stepN1 (a := 0) (b := 0) rfl rfl ?_
            · intro r_ w936 h937 hl938 hJ_ hb_ hp_
              have hS935 := hJ_
              obtain ⟨b0_, b1_, b2_, b3_, _⟩ := hb_
              obtain ⟨p0_, p1_, _⟩ := hp_
              obtain ⟨b939, o940, cs941, p0_, hr942, hat943⟩ := p0_
              have p1_ : r_ 74 = .bool (false) := p1_
              refine WL_unguard (yl_eq (d := 74) rfl p1_) ?_
              obtain ⟨a944, c945, a946, c947, rfl, hs948, hs949⟩ := hr942
              refine WL.val1 (R_loadCA (cs := [.string (B (z_cutS_l_6_j.name)), .slice (a944) (z_cutS_l_6_j.seens).length (c945), .slice (a946) (z_cutS_l_6_j.files).length (c947)]) hS935 p0_ hat943 Tryd.isAgg38 Tryd.sizeOf38 rfl) ?_
              refine WL.nil ?_
              exact ⟨rfl, _, _, rfl, (Hp.le_refl _), ⟨a944, c945, a946, c947, rfl, hs948, hs949⟩, hS935⟩
          · refine stepN1 (a := 0) (b := 0) rfl rfl ?_
            · intro r_ w957 h958 hl959 hJ_ hb_ hp_
              have hS956 := hJ_
              obtain ⟨b0_, b1_, b2_, b3_, _⟩ := hb_
              obtain ⟨p0_, p1_, p2_, p3_, _⟩ := hp_
              obtain ⟨a960, c961, p0_, hs962⟩ := p0_
              obtain ⟨a963, c964, a966, c967, p1_, hs965, hs968⟩ := p1_
              obtain ⟨a969, c970, p2_, hs971⟩ := p2_
              have p3_ : r_ 74 = .bool (false) := p3_
              refine WL_unguard (yl_eq (d := 74) rfl p3_) ?_
              refine S_callF (vs := [.slice (a960) (((cutS l 6))).length (c961), .agg #[.string (B (z_cutS_l_6_j.name)), .slice (a963) (z_cutS_l_6_j.seens).length (c964), .slice (a966) (z_cutS_l_6_j.files).length (c967)]]) hS956 Tryd.call15 (hmap2 p0_ p1_) (ref20_Put (((cutS l 6))) (a960) (c961) (z_cutS_l_6_j) (a963) (c964) (a966) (c967) (by first | assumption | omega | exact hz | exact hz.take _ | exact rput_sz hz (by omega) (hz.2 _ (List.mem_of_getElem? hz_cutS_l_6_j)) | exact rput_sz (hz.take _) (by rw [List.length_take]; omega) (hz.2 _ (List.mem_of_getElem? hz_cutS_l_6_j)) | exact refPut_sz hz (by omega) (hz.2 _ (List.mem_of_getElem? hz_cutS_l_6_j)) | exact refPut_sz (hz.take _) (by rw [List.length_take]; omega) (hz.2 _ (List.mem_of_getElem? hz_cutS_l_6_j)) | exact szl_one (rfind_sz hz) | exact szl_one (refFind_sz hz) | exact SzL.len (hz) | exact SzL.seens (hz) | exact SzL.both (hz) | exact SzL.len (hz.take _) | exact SzL.seens (hz.take _) | exact SzL.both (hz.take _) | exact SzL.len (rput_sz hz (by omega) (hz.2 _ (List.mem_of_getElem? hz_cutS_l_6_j))) | exact SzL.seens (rput_sz hz (by omega) (hz.2 _ (List.mem_of_getElem? hz_cutS_l_6_j))) | exact SzL.both (rput_sz hz (by omega) (hz.2 _ (List.mem_of_getElem? hz_cutS_l_6_j))) | exact SzL.len (rput_sz (hz.take _) (by rw [List.length_take]; omega) (hz.2 _ (List.mem_of_getElem? hz_cutS_l_6_j))) | exact SzL.seens (rput_sz (hz.take _) (by rw [List.length_take]; omega) (hz.2 _ (List.mem_of_getElem? hz_cutS_l_6_j))) | exact SzL.both (rput_sz (hz.take _) (by rw [List.length_take]; omega) (hz.2 _ (List.mem_of_getElem? hz_cutS_l_6_j))) | exact SzL.len (szl_one (rfind_sz hz)) | exact SzL.seens (szl_one (rfind_sz hz)) | exact SzL.both (szl_one (rfind_sz hz)) | exact SzL.len (szl_one (refFind_sz hz)) | exact SzL.seens (szl_one (refFind_sz hz)) | exact SzL.both (szl_one (refFind_sz hz)) | exact SzR.s (hz.2 _ (List.mem_of_getElem? hz_cutS_l_6_j)) | exact SzR.f (hz.2 _ (List.mem_of_getElem? hz_cutS_l_6_j)) | (simp only [List.length_take]; omega))) ⟨hs962, hs965, hs968⟩ ?_
              intro h974 v976 w973 hl975 hp977 hS972
              obtain ⟨a978, c979, rfl, hf980⟩ := hp977
              refine WL.nil ?_
              exact ⟨rfl, _, _, rfl, hl975, ⟨a978, c979, rfl, hf980⟩, hS972⟩
          · refine stepN1 (a := 0) (b := 0) rfl rfl ?_
            · intro r_ w985 h986 hl987 hJ_ hb_ hp_
              have hS984 := hJ_
              obtain ⟨b0_, b1_, b2_, b3_, _⟩ := hb_
              obtain ⟨p0_, p1_, p2_, p3_, _⟩ := hp_
              obtain ⟨a988, c989, p0_, hs990⟩ := p0_
              obtain ⟨a991, c992, p1_, hs993⟩ := p1_
              obtain ⟨a994, c995, p2_, hs996⟩ := p2_
              have p3_ : r_ 74 = .bool (false) := p3_
              refine WL_unguard (yl_eq (d := 74) rfl p3_) ?_
              refine S_callP (vs := [.slice (a988) (((rputS ((cutS l 6)) z_cutS_l_6_j))).length (c989), .slice (a994) ((refPutF z_cutS_l_6_j false (((cutS l 6))))).length (c995)]) hS984 Tryd.call13 (hmap2 p0_ p2_) (ref20_Same (((rputS ((cutS l 6)) z_cutS_l_6_j))) (a988) (c989) ((refPutF z_cutS_l_6_j false (((cutS l 6))))) (a994) (c995) (by first | assumption | omega | exact hz | exact hz.take _ | exact rput_sz hz (by omega) (hz.2 _ (List.mem_of_getElem? hz_cutS_l_6_j)) | exact rput_sz (hz.take _) (by rw [List.length_take]; omega) (hz.2 _ (List.mem_of_getElem? hz_cutS_l_6_j)) | exact refPut_sz hz (by omega) (hz.2 _ (List.mem_of_getElem? hz_cutS_l_6_j)) | exact refPut_sz (hz.take _) (by rw [List.length_take]; omega) (hz.2 _ (List.mem_of_getElem? hz_cutS_l_6_j)) | exact szl_one (rfind_sz hz) | exact szl_one (refFind_sz hz) | exact SzL.len (hz) | exact SzL.seens (hz) | exact SzL.both (hz) | exact SzL.len (hz.take _) | exact SzL.seens (hz.take _) | exact SzL.both (hz.take _) | exact SzL.len (rput_sz hz (by omega) (hz.2 _ (List.mem_of_getElem? hz_cutS_l_6_j))) | exact SzL.seens (rput_sz hz (by omega) (hz.2 _ (List.mem_of_getElem? hz_cutS_l_6_j))) | exact SzL.both (rput_sz hz (by omega) (hz.2 _ (List.mem_of_getElem? hz_cutS_l_6_j))) | exact SzL.len (rput_sz (hz.take _) (by rw [List.length_take]; omega) (hz.2 _ (List.mem_of_getElem? hz_cutS_l_6_j))) | exact SzL.seens (rput_sz (hz.take _) (by rw [List.length_take]; omega) (hz.2 _ (List.mem_of_getElem? hz_cutS_l_6_j))) | exact SzL.both (rput_sz (hz.take _) (by rw [List.length_take]; omega) (hz.2 _ (List.mem_of_getElem? hz_cutS_l_6_j))) | exact SzL.len (szl_one (rfind_sz hz)) | exact SzL.seens (szl_one (rfind_sz hz)) | exact SzL.both (szl_one (rfind_sz hz)) | exact SzL.len (szl_one (refFind_sz hz)) | exact SzL.seens (szl_one (refFind_sz hz)) | exact SzL.both (szl_one (refFind_sz hz)) | exact SzR.s (hz.2 _ (List.mem_of_getElem? hz_cutS_l_6_j)) | exact SzR.f (hz.2 _ (List.mem_of_getElem? hz_cutS_l_6_j)) | (simp only [List.length_take]; omega)) (by first | assumption | omega | exact hz | exact hz.take _ | exact rput_sz hz (by omega) (hz.2 _ (List.mem_of_getElem? hz_cutS_l_6_j)) | exact rput_sz (hz.take _) (by rw [List.length_take]; omega) (hz.2 _ (List.mem_of_getElem? hz_cutS_l_6_j)) | exact refPut_sz hz (by omega) (hz.2 _ (List.mem_of_getElem? hz_cutS_l_6_j)) | exact refPut_sz (hz.take _) (by rw [List.length_take]; omega) (hz.2 _ (List.mem_of_getElem? hz_cutS_l_6_j)) | exact szl_one (rfind_sz hz) | exact szl_one (refFind_sz hz) | exact SzL.len (hz) | exact SzL.seens (hz) | exact SzL.both (hz) | exact SzL.len (hz.take _) | exact SzL.seens (hz.take _) | exact SzL.both (hz.take _) | exact SzL.len (rput_sz hz (by omega) (hz.2 _ (List.mem_of_getElem? hz_cutS_l_6_j))) | exact SzL.seens (rput_sz hz (by omega) (hz.2 _ (List.mem_of_getElem? hz_cutS_l_6_j))) | exact SzL.both (rput_sz hz (by omega) (hz.2 _ (List.mem_of_getElem? hz_cutS_l_6_j))) | exact SzL.len (rput_sz (hz.take _) (by rw [List.length_take]; omega) (hz.2 _ (List.mem_of_getElem? hz_cutS_l_6_j))) | exact SzL.seens (rput_sz (hz.take _) (by rw [List.length_take]; omega) (hz.2 _ (List.mem_of_getElem? hz_cutS_l_6_j))) | exact SzL.both (rput_sz (hz.take _) (by rw [List.length_take]; omega) (hz.2 _ (List.mem_of_getElem? hz_cutS_l_6_j))) | exact SzL.len (szl_one (rfind_sz hz)) | exact SzL.seens (szl_one (rfind_sz hz)) | exact SzL.both (szl_one (rfind_sz hz)) | exact SzL.len (szl_one (refFind_sz hz)) | exact SzL.seens (szl_one (refFind_sz hz)) | exact SzL.both (szl_one (refFind_sz hz)) | exact SzR.s (hz.2 _ (List.mem_of_getElem? hz_cutS_l_6_j)) | exact SzR.f (hz.2 _ (List.mem_of_getElem? hz_cutS_l_6_j)) | (simp only [List.length_take]; omega))) ⟨hs990, hs996⟩ ?_
              intro w998 hS997
              refine WL.nil ?_
              exact ⟨rfl, _, _, rfl, (Hp.le_refl _), rfl, hS997⟩
          · refine stepN1 (a := 0) (b := 0) rfl rfl ?_
            · intro r_ w1000 h1001 hl1002 hJ_ hb_ hp_
              have hS999 := hJ_
              obtain ⟨b0_, b1_, b2_, b3_, _⟩ := hb_
              obtain ⟨p0_, p1_, _⟩ := hp_
              have p0_ : r_ 90 = .bool (sameS (((rputS ((cutS l 6)) z_cutS_l_6_j))) ((refPutF z_cutS_l_6_j false (((cutS l 6)))))) := p0_
              have p1_ : r_ 74 = .bool (false) := p1_
              refine WL_unguard (yl_eq (d := 74) rfl p1_) ?_
              refine WL.val1 (R_cast (R_not (b := sameS (((rputS ((cutS l 6)) z_cutS_l_6_j))) ((refPutF z_cutS_l_6_j false (((cutS l 6)))))) p0_) (bool_false (by rw [rput_eq, sameS_refl]; rfl))) ?_
              refine WL.nil ?_
              exact ⟨rfl, _, _, rfl, (Hp.le_refl _), rfl, hS999⟩
          · refine stepN1 (a := 0) (b := 0) rfl rfl ?_
            · intro r_ w1004 h1005 hl1006 hJ_ hb_ hp_
              have hS1003 := hJ_
              obtain ⟨b0_, b1_, b2_, b3_, _⟩ := hb_
              obtain ⟨p0_, p1_, _⟩ := hp_
              have p0_ : r_ 74 = .bool (false) := p0_
              have p1_ : r_ 91 = .bool (false) := p1_
              refine WL.val1 (R_pick (cb := false) (v := .bool (false)) p0_ (fun h => by cases h) (fun _ => p1_)) ?_
              refine WL.nil ?_
              exact ⟨rfl, _, _, rfl, (Hp.le_refl _), rfl, hS1003⟩
          · refine stepN1 (a := 0) (b := 0) rfl rfl ?_
            · intro r_ w1008 h1009 hl1010 hJ_ hb_ hp_
              have hS1007 := hJ_
              obtain ⟨b0_, b1_, b2_, b3_, _⟩ := hb_
              obtain ⟨p0_, p1_, _⟩ := hp_
              have p0_ : r_ 92 = .bool (false) := p0_
              have p1_ : r_ 90 = .bool (sameS (((rputS ((cutS l 6)) z_cutS_l_6_j))) ((refPutF z_cutS_l_6_j false (((cutS l 6)))))) := p1_
              refine WL.val1 (R_move (v := .bool (false)) p0_) ?_
              refine WL.nil ?_
              exact ⟨rfl, _, _, rfl, (Hp.le_refl _), rfl, hS1007⟩
          · refine stepN1 (a := 0) (b := 0) rfl rfl ?_
            · intro r_ w1012 h1013 hl1014 hJ_ hb_ hp_
              have hS1011 := hJ_
              obtain ⟨b0_, b1_, b2_, b3_, _⟩ := hb_
              obtain ⟨p0_, _⟩ := hp_
              have p0_ : r_ 93 = .bool (false) := p0_
              refine WL_unguard (yl_eq (d := 93) rfl p0_) ?_
              refine WL.val1 (R_move (v := .slice (a7) ((cutS l 6)).length (c8)) b0_) ?_
              refine WL.nil ?_
              exact ⟨rfl, _, _, rfl, (Hp.le_refl _), rfl, hS1011⟩
          · refine stepN1 (a := 0) (b := 0) rfl rfl ?_
            · intro r_ w1016 h1017 hl1018 hJ_ hb_ hp_
              have hS1015 := hJ_
              obtain ⟨b0_, b1_, b2_, b3_, _⟩ := hb_
              obtain ⟨p0_, _⟩ := hp_
              have p0_ : r_ 93 = .bool (false) := p0_
              refine WL_unguard (yl_eq (d := 93) rfl p0_) ?_
              refine WL.val1 (R_move (v := .int .i64 (((j : Nat) : Int))) b3_) ?_
              refine WL.nil ?_
              exact ⟨rfl, _, _, rfl, (Hp.le_refl _), rfl, hS1015⟩
          · refine stepN1 (a := 0) (b := 0) rfl rfl ?_
            · intro r_ w1020 h1021 hl1022 hJ_ hb_ hp_
              have hS1019 := hJ_
              obtain ⟨b0_, b1_, b2_, b3_, _⟩ := hb_
              obtain ⟨p0_, p1_, p2_, _⟩ := hp_
              have p0_ : r_ 94 = .slice (a7) ((cutS l 6)).length (c8) := p0_
              have p1_ : r_ 95 = .int .i64 (((j : Nat) : Int)) := p1_
              have p2_ : r_ 93 = .bool (false) := p2_
              refine WL_unguard (yl_eq (d := 93) rfl p2_) ?_
              obtain ⟨a1023, ha1024⟩ : ∃ a_ : Option Addr, a_ = (if c8 = 0 then a7 else (a7 : Option Addr).map (·.add (0 * 3))) := ⟨_, rfl⟩
              have hs1025 := (by rw [ha1024]; exact ((hf9.mono (((((((hl13.trans hl24).trans hl164).trans hl170).trans hl179).trans hl188).trans hl199).trans hl1022)).upto j (by omega)) : Sl RRec h1021 ((cutS l 6).take j) a1023 (c8))
              refine WL.val1 (R_cast (v' := .slice (a1023) (((cutS l 6).take j)).length (c8)) (R_slh (m := j) p0_ p1_ Tryd.underlying22 (Tryd.sizeOf35 _) (by first | rfl | (omega)) (by have hc_ := (hf9.mono (((((((hl13.trans hl24).trans hl164).trans hl170).trans hl179).trans hl188).trans hl199).trans hl1022)).1; omega)) (by rw [ha1024]; exact congrArg (fun q_ => Value.slice _ q_ _) (by (try simp only [List.length_take, List.length_append, List.length_cons, List.length_nil]); omega))) ?_
              refine WL.nil ?_
              exact ⟨rfl, _, _, rfl, (Hp.le_refl _), ⟨a1023, c8, rfl, hs1025⟩, hS1019⟩
          · refine stepN1 (a := 0) (b := 0) rfl rfl ?_
            · intro r_ w1030 h1031 hl1032 hJ_ hb_ hp_
              have hS1029 := hJ_
              obtain ⟨b0_, b1_, b2_, b3_, _⟩ := hb_
              obtain ⟨p0_, _⟩ := hp_
              have p0_ : r_ 93 = .bool (false) := p0_
              refine WL_unguard (yl_eq (d := 93) rfl p0_) ?_
              refine WL.val1 (R_move (v := .slice (a7) ((cutS l 6)).length (c8)) b0_) ?_
              refine WL.nil ?_
              exact ⟨rfl, _, _, rfl, (Hp.le_refl _), rfl, hS1029⟩
          · refine stepN1 (a := 0) (b := 0) rfl rfl ?_
            · intro r_ w1034 h1035 hl1036 hJ_ hb_ hp_
              have hS1033 := hJ_
              obtain ⟨b0_, b1_, b2_, b3_, _⟩ := hb_
              obtain ⟨p0_, _⟩ := hp_
              have p0_ : r_ 93 = .bool (false) := p0_
              refine WL_unguard (yl_eq (d := 93) rfl p0_) ?_
              refine WL.val1 (R_move (v := .int .i64 (((j : Nat) : Int))) b3_) ?_
              refine WL.nil ?_
              exact ⟨rfl, _, _, rfl, (Hp.le_refl _), rfl, hS1033⟩
          · refine stepN1 (a := 0) (b := 0) rfl rfl ?_
            · intro r_ w1038 h1039 hl1040 hJ_ hb_ hp_
              have hS1037 := hJ_
              obtain ⟨b0_, b1_, b2_, b3_, _⟩ := hb_
              obtain ⟨p0_, p1_, p2_, _⟩ := hp_
              have p0_ : r_ 97 = .slice (a7) ((cutS l 6)).length (c8) := p0_
              have p1_ : r_ 98 = .int .i64 (((j : Nat) : Int)) := p1_
              have p2_ : r_ 93 = .bool (false) := p2_
              refine WL_unguard (yl_eq (d := 93) rfl p2_) ?_
              refine WL.val1 (R_indexAddrE (i := ((j : Nat) : Int)) (m := j) ha215 p0_ p1_ Tryd.underlying22 (Tryd.sizeOf35 _) (by first | rfl | (omega)) (by omega)) ?_
              refine WL.nil ?_
              exact ⟨rfl, _, _, rfl, (Hp.le_refl _), rfl, hS1037⟩
          · refine stepN1 (a := 0) (b := 0) rfl rfl ?_
            · intro r_ w1042 h1043 hl1044 hJ_ hb_ hp_
              have hS1041 := hJ_
              obtain ⟨b0_, b1_, b2_, b3_, _⟩ := hb_
              obtain ⟨p0_, p1_, _⟩ := hp_
              have p0_ : r_ 99 = .pointer (some ⟨b213, (o214 + j * RRec.n), none⟩) := p0_
              have p1_ : r_ 93 = .bool (false) := p1_
              refine WL_unguard (yl_eq (d := 93) rfl p1_) ?_
              refine WL.val1 (R_loadCA (cs := [.string (B (z_cutS_l_6_j.name)), .slice (a219) (z_cutS_l_6_j.seens).length (c220), .slice (a221) (z_cutS_l_6_j.files).length (c222)]) hS1041 p0_ (hat217.mono hl1044) Tryd.isAgg35 Tryd.sizeOf35 rfl) ?_
              refine WL.nil ?_
              exact ⟨rfl, _, _, rfl, (Hp.le_refl _), rfl, hS1041⟩
          · refine stepN1 (a := 0) (b := 0) rfl rfl ?_
            · intro r_ w1046 h1047 hl1048 hJ_ hb_ hp_
              have hS1045 := hJ_
              obtain ⟨b0_, b1_, b2_, b3_, _⟩ := hb_
              obtain ⟨p0_, p1_, p2_, p3_, _⟩ := hp_
              obtain ⟨a1049, c1050, p0_, hs1051⟩ := p0_
              have p1_ : r_ 100 = .agg #[.string (B (z_cutS_l_6_j.name)), .slice (a219) (z_cutS_l_6_j.seens).length (c220), .slice (a221) (z_cutS_l_6_j.files).length (c222)] := p1_
              have p2_ : r_ 93 = .bool (false) := p2_
              have p3_ : r_ 93 = .bool (false) := p3_
              refine WL_unguard (yl_eq (d := 93) rfl p3_) ?_
              refine S_callF (vs := [.slice (a1049) (((cutS l 6).take j)).length (c1050), .agg #[.string (B (z_cutS_l_6_j.name)), .slice (a219) (z_cutS_l_6_j.seens).length (c220), .slice (a221) (z_cutS_l_6_j.files).length (c222)]]) hS1045 Tryd.call14 (hmap2 p0_ p1_) (rec_Put (((cutS l 6).take j)) (a1049) (c1050) (z_cutS_l_6_j) (a219) (c220) (a221) (c222) (by first | assumption | omega | exact hz | exact hz.take _ | exact rput_sz hz (by omega) (hz.2 _ (List.mem_of_getElem? hz_cutS_l_6_j)) | exact rput_sz (hz.take _) (by rw [List.length_take]; omega) (hz.2 _ (List.mem_of_getElem? hz_cutS_l_6_j)) | exact refPut_sz hz (by omega) (hz.2 _ (List.mem_of_getElem? hz_cutS_l_6_j)) | exact refPut_sz (hz.take _) (by rw [List.length_take]; omega) (hz.2 _ (List.mem_of_getElem? hz_cutS_l_6_j)) | exact szl_one (rfind_sz hz) | exact szl_one (refFind_sz hz) | exact SzL.len (hz) | exact SzL.seens (hz) | exact SzL.both (hz) | exact SzL.len (hz.take _) | exact SzL.seens (hz.take _) | exact SzL.both (hz.take _) | exact SzL.len (rput_sz hz (by omega) (hz.2 _ (List.mem_of_getElem? hz_cutS_l_6_j))) | exact SzL.seens (rput_sz hz (by omega) (hz.2 _ (List.mem_of_getElem? hz_cutS_l_6_j))) | exact SzL.both (rput_sz hz (by omega) (hz.2 _ (List.mem_of_getElem? hz_cutS_l_6_j))) | exact SzL.len (rput_sz (hz.take _) (by rw [List.length_take]; omega) (hz.2 _ (List.mem_of_getElem? hz_cutS_l_6_j))) | exact SzL.seens (rput_sz (hz.take _) (by rw [List.length_take]; omega) (hz.2 _ (List.mem_of_getElem? hz_cutS_l_6_j))) | exact SzL.both (rput_sz (hz.take _) (by rw [List.length_take]; omega) (hz.2 _ (List.mem_of_getElem? hz_cutS_l_6_j))) | exact SzL.len (szl_one (rfind_sz hz)) | exact SzL.seens (szl_one (rfind_sz hz)) | exact SzL.both (szl_one (rfind_sz hz)) | exact SzL.len (szl_one (refFind_sz hz)) | exact SzL.seens (szl_one (refFind_sz hz)) | exact SzL.both (szl_one (refFind_sz hz)) | exact SzR.s (hz.2 _ (List.mem_of_getElem? hz_cutS_l_6_j)) | exact SzR.f (hz.2 _ (List.mem_of_getElem? hz_cutS_l_6_j)) | (simp only [List.length_take]; omega)) (by first | assumption | omega | exact hz | exact hz.take _ | exact rput_sz hz (by omega) (hz.2 _ (List.mem_of_getElem? hz_cutS_l_6_j)) | exact rput_sz (hz.take _) (by rw [List.length_take]; omega) (hz.2 _ (List.mem_of_getElem? hz_cutS_l_6_j)) | exact refPut_sz hz (by omega) (hz.2 _ (List.mem_of_getElem? hz_cutS_l_6_j)) | exact refPut_sz (hz.take _) (by rw [List.length_take]; omega) (hz.2 _ (List.mem_of_getElem? hz_cutS_l_6_j)) | exact szl_one (rfind_sz hz) | exact szl_one (refFind_sz hz) | exact SzL.len (hz) | exact SzL.seens (hz) | exact SzL.both (hz) | exact SzL.len (hz.take _) | exact SzL.seens (hz.take _) | exact SzL.both (hz.take _) | exact SzL.len (rput_sz hz (by omega) (hz.2 _ (List.mem_of_getElem? hz_cutS_l_6_j))) | exact SzL.seens (rput_sz hz (by omega) (hz.2 _ (List.mem_of_getElem? hz_cutS_l_6_j))) | exact SzL.both (rput_sz hz (by omega) (hz.2 _ (List.mem_of_getElem? hz_cutS_l_6_j))) | exact SzL.len (rput_sz (hz.take _) (by rw [List.length_take]; omega) (hz.2 _ (List.mem_of_getElem? hz_cutS_l_6_j))) | exact SzL.seens (rput_sz (hz.take _) (by rw [List.length_take]; omega) (hz.2 _ (List.mem_of_getElem? hz_cutS_l_6_j))) | exact SzL.both (rput_sz (hz.take _) (by rw [List.length_take]; omega) (hz.2 _ (List.mem_of_getElem? hz_cutS_l_6_j))) | exact SzL.len (szl_one (rfind_sz hz)) | exact SzL.seens (szl_one (rfind_sz hz)) | exact SzL.both (szl_one (rfind_sz hz)) | exact SzL.len (szl_one (refFind_sz hz)) | exact SzL.seens (szl_one (refFind_sz hz)) | exact SzL.both (szl_one (refFind_sz hz)) | exact SzR.s (hz.2 _ (List.mem_of_getElem? hz_cutS_l_6_j)) | exact SzR.f (hz.2 _ (List.mem_of_getElem? hz_cutS_l_6_j)) | (simp only [List.length_take]; omega)) (by first | assumption | omega | exact hz | exact hz.take _ | exact rput_sz hz (by omega) (hz.2 _ (List.mem_of_getElem? hz_cutS_l_6_j)) | exact rput_sz (hz.take _) (by rw [List.length_take]; omega) (hz.2 _ (List.mem_of_getElem? hz_cutS_l_6_j)) | exact refPut_sz hz (by omega) (hz.2 _ (List.mem_of_getElem? hz_cutS_l_6_j)) | exact refPut_sz (hz.take _) (by rw [List.length_take]; omega) (hz.2 _ (List.mem_of_getElem? hz_cutS_l_6_j)) | exact szl_one (rfind_sz hz) | exact szl_one (refFind_sz hz) | exact SzL.len (hz) | exact SzL.seens (hz) | exact SzL.both (hz) | exact SzL.len (hz.take _) | exact SzL.seens (hz.take _) | exact SzL.both (hz.take _) | exact SzL.len (rput_sz hz (by omega) (hz.2 _ (List.mem_of_getElem? hz_cutS_l_6_j))) | exact SzL.seens (rput_sz hz (by omega) (hz.2 _ (List.mem_of_getElem? hz_cutS_l_6_j))) | exact SzL.both (rput_sz hz (by omega) (hz.2 _ (List.mem_of_getElem? hz_cutS_l_6_j))) | exact SzL.len (rput_sz (hz.take _) (by rw [List.length_take]; omega) (hz.2 _ (List.mem_of_getElem? hz_cutS_l_6_j))) | exact SzL.seens (rput_sz (hz.take _) (by rw [List.length_take]; omega) (hz.2 _ (List.mem_of_getElem? hz_cutS_l_6_j))) | exact SzL.both (rput_sz (hz.take _) (by rw [List.length_take]; omega) (hz.2 _ (List.mem_of_getElem? hz_cutS_l_6_j))) | exact SzL.len (szl_one (rfind_sz hz)) | exact SzL.seens (szl_one (rfind_sz hz)) | exact SzL.both (szl_one (rfind_sz hz)) | exact SzL.len (szl_one (refFind_sz hz)) | exact SzL.seens (szl_one (refFind_sz hz)) | exact SzL.both (szl_one (refFind_sz hz)) | exact SzR.s (hz.2 _ (List.mem_of_getElem? hz_cutS_l_6_j)) | exact SzR.f (hz.2 _ (List.mem_of_getElem? hz_cutS_l_6_j)) | (simp only [List.length_take]; omega)) (by first | assumption | omega | exact hz | exact hz.take _ | exact rput_sz hz (by omega) (hz.2 _ (List.mem_of_getElem? hz_cutS_l_6_j)) | exact rput_sz (hz.take _) (by rw [List.length_take]; omega) (hz.2 _ (List.mem_of_getElem? hz_cutS_l_6_j)) | exact refPut_sz hz (by omega) (hz.2 _ (List.mem_of_getElem? hz_cutS_l_6_j)) | exact refPut_sz (hz.take _) (by rw [List.length_take]; omega) (hz.2 _ (List.mem_of_getElem? hz_cutS_l_6_j)) | exact szl_one (rfind_sz hz) | exact szl_one (refFind_sz hz) | exact SzL.len (hz) | exact SzL.seens (hz) | exact SzL.both (hz) | exact SzL.len (hz.take _) | exact SzL.seens (hz.take _) | exact SzL.both (hz.take _) | exact SzL.len (rput_sz hz (by omega) (hz.2 _ (List.mem_of_getElem? hz_cutS_l_6_j))) | exact SzL.seens (rput_sz hz (by omega) (hz.2 _ (List.mem_of_getElem? hz_cutS_l_6_j))) | exact SzL.both (rput_sz hz (by omega) (hz.2 _ (List.mem_of_getElem? hz_cutS_l_6_j))) | exact SzL.len (rput_sz (hz.take _) (by rw [List.length_take]; omega) (hz.2 _ (List.mem_of_getElem? hz_cutS_l_6_j))) | exact SzL.seens (rput_sz (hz.take _) (by rw [List.length_take]; omega) (hz.2 _ (List.mem_of_getElem? hz_cutS_l_6_j))) | exact SzL.both (rput_sz (hz.take _) (by rw [List.length_take]; omega) (hz.2 _ (List.mem_of_getElem? hz_cutS_l_6_j))) | exact SzL.len (szl_one (rfind_sz hz)) | exact SzL.seens (szl_one (rfind_sz hz)) | exact SzL.both (szl_one (rfind_sz hz)) | exact SzL.len (szl_one (refFind_sz hz)) | exact SzL.seens (szl_one (refFind_sz hz)) | exact SzL.both (szl_one (refFind_sz hz)) | exact SzR.s (hz.2 _ (List.mem_of_getElem? hz_cutS_l_6_j)) | exact SzR.f (hz.2 _ (List.mem_of_getElem? hz_cutS_l_6_j)) | (simp only [List.length_take]; omega))) ⟨hs1051, (hs223.mono hl1048), (hs224.mono hl1048)⟩ ?_
              intro h1054 v1056 w1053 hl1055 hp1057 hS1052
              obtain ⟨a1058, c1059, rfl, hf1060⟩ := hp1057
              refine WL.nil ?_
              exact ⟨rfl, _, _, rfl, hl1055, ⟨a1058, c1059, rfl, hf1060⟩, hS1052⟩
          · refine stepN1 (a := 0) (b := 0) rfl rfl ?_
            · intro r_ w1065 h1066 hl1067 hJ_ hb_ hp_
              have hS1064 := hJ_
              obtain ⟨b0_, b1_, b2_, b3_, _⟩ := hb_
              obtain ⟨p0_, p1_, p2_, _⟩ := hp_
              obtain ⟨a1068, c1069, p0_, hs1070⟩ := p0_
              obtain ⟨a1071, c1072, p1_, hs1073⟩ := p1_
              have p2_ : r_ 93 = .bool (false) := p2_
              refine WL_unguard (yl_eq (d := 93) rfl p2_) ?_
              refine S_callF (vs := [.slice (a1071) ((rputS (((cutS l 6).take j)) z_cutS_l_6_j)).length (c1072)]) hS1064 Tryd.call12 (hmap1 p1_) (law_Refs ((rputS (((cutS l 6).take j)) z_cutS_l_6_j)) (a1071) (c1072) (by first | assumption | omega | exact hz | exact hz.take _ | exact rput_sz hz (by omega) (hz.2 _ (List.mem_of_getElem? hz_cutS_l_6_j)) | exact rput_sz (hz.take _) (by rw [List.length_take]; omega) (hz.2 _ (List.mem_of_getElem? hz_cutS_l_6_j)) | exact refPut_sz hz (by omega) (hz.2 _ (List.mem_of_getElem? hz_cutS_l_6_j)) | exact refPut_sz (hz.take _) (by rw [List.length_take]; omega) (hz.2 _ (List.mem_of_getElem? hz_cutS_l_6_j)) | exact szl_one (rfind_sz hz) | exact szl_one (refFind_sz hz) | exact SzL.len (hz) | exact SzL.seens (hz) | exact SzL.both (hz) | exact SzL.len (hz.take _) | exact SzL.seens (hz.take _) | exact SzL.both (hz.take _) | exact SzL.len (rput_sz hz (by omega) (hz.2 _ (List.mem_of_getElem? hz_cutS_l_6_j))) | exact SzL.seens (rput_sz hz (by omega) (hz.2 _ (List.mem_of_getElem? hz_cutS_l_6_j))) | exact SzL.both (rput_sz hz (by omega) (hz.2 _ (List.mem_of_getElem? hz_cutS_l_6_j))) | exact SzL.len (rput_sz (hz.take _) (by rw [List.length_take]; omega) (hz.2 _ (List.mem_of_getElem? hz_cutS_l_6_j))) | exact SzL.seens (rput_sz (hz.take _) (by rw [List.length_take]; omega) (hz.2 _ (List.mem_of_getElem? hz_cutS_l_6_j))) | exact SzL.both (rput_sz (hz.take _) (by rw [List.length_take]; omega) (hz.2 _ (List.mem_of_getElem? hz_cutS_l_6_j))) | exact SzL.len (szl_one (rfind_sz hz)) | exact SzL.seens (szl_one (rfind_sz hz)) | exact SzL.both (szl_one (rfind_sz hz)) | exact SzL.len (szl_one (refFind_sz hz)) | exact SzL.seens (szl_one (refFind_sz hz)) | exact SzL.both (szl_one (refFind_sz hz)) | exact SzR.s (hz.2 _ (List.mem_of_getElem? hz_cutS_l_6_j)) | exact SzR.f (hz.2 _ (List.mem_of_getElem? hz_cutS_l_6_j)) | (simp only [List.length_take]; omega)) (by first | assumption | omega | exact hz | exact hz.take _ | exact rput_sz hz (by omega) (hz.2 _ (List.mem_of_getElem? hz_cutS_l_6_j)) | exact rput_sz (hz.take _) (by rw [List.length_take]; omega) (hz.2 _ (List.mem_of_getElem? hz_cutS_l_6_j)) | exact refPut_sz hz (by omega) (hz.2 _ (List.mem_of_getElem? hz_cutS_l_6_j)) | exact refPut_sz (hz.take _) (by rw [List.length_take]; omega) (hz.2 _ (List.mem_of_getElem? hz_cutS_l_6_j)) | exact szl_one (rfind_sz hz) | exact szl_one (refFind_sz hz) | exact SzL.len (hz) | exact SzL.seens (hz) | exact SzL.both (hz) | exact SzL.len (hz.take _) | exact SzL.seens (hz.take _) | exact SzL.both (hz.take _) | exact SzL.len (rput_sz hz (by omega) (hz.2 _ (List.mem_of_getElem? hz_cutS_l_6_j))) | exact SzL.seens (rput_sz hz (by omega) (hz.2 _ (List.mem_of_getElem? hz_cutS_l_6_j))) | exact SzL.both (rput_sz hz (by omega) (hz.2 _ (List.mem_of_getElem? hz_cutS_l_6_j))) | exact SzL.len (rput_sz (hz.take _) (by rw [List.length_take]; omega) (hz.2 _ (List.mem_of_getElem? hz_cutS_l_6_j))) | exact SzL.seens (rput_sz (hz.take _) (by rw [List.length_take]; omega) (hz.2 _ (List.mem_of_getElem? hz_cutS_l_6_j))) | exact SzL.both (rput_sz (hz.take _) (by rw [List.length_take]; omega) (hz.2 _ (List.mem_of_getElem? hz_cutS_l_6_j))) | exact SzL.len (szl_one (rfind_sz hz)) | exact SzL.seens (szl_one (rfind_sz hz)) | exact SzL.both (szl_one (rfind_sz hz)) | exact SzL.len (szl_one (refFind_sz hz)) | exact SzL.seens (szl_one (refFind_sz hz)) | exact SzL.both (szl_one (refFind_sz hz)) | exact SzR.s (hz.2 _ (List.mem_of_getElem? hz_cutS_l_6_j)) | exact SzR.f (hz.2 _ (List.mem_of_getElem? hz_cutS_l_6_j)) | (simp only [List.length_take]; omega))) hs1073 ?_
              intro h1076 v1078 w1075 hl1077 hp1079 hS1074
              obtain ⟨a1080, c1081, rfl, hf1082⟩ := hp1079
              refine WL.nil ?_
              exact ⟨rfl, _, _, rfl, hl1077, ⟨a1080, c1081, rfl, hf1082⟩, hS1074⟩
          · refine stepN1 (a := 0) (b := 0) rfl rfl ?_
            · intro r_ w1087 h1088 hl1089 hJ_ hb_ hp_
              have hS1086 := hJ_
              obtain ⟨b0_, b1_, b2_, b3_, _⟩ := hb_
              obtain ⟨p0_, _⟩ := hp_
              have p0_ : r_ 93 = .bool (false) := p0_
              refine WL_unguard (yl_eq (d := 93) rfl p0_) ?_
              refine WL.val1 (R_move (v := .slice (a7) ((cutS l 6)).length (c8)) b0_) ?_
              refine WL.nil ?_
              exact ⟨rfl, _, _, rfl, (Hp.le_refl _), rfl, hS1086⟩
          · refine stepN1 (a := 0) (b := 0) rfl rfl ?_
            · intro r_ w1091 h1092 hl1093 hJ_ hb_ hp_
              have hS1090 := hJ_
              obtain ⟨b0_, b1_, b2_, b3_, _⟩ := hb_
              obtain ⟨p0_, _⟩ := hp_
              have p0_ : r_ 93 = .bool (false) := p0_
              refine WL_unguard (yl_eq (d := 93) rfl p0_) ?_
              refine WL.val1 (R_move (v := .int .i64 (((j : Nat) : Int))) b3_) ?_
              refine WL.nil ?_
              exact ⟨rfl, _, _, rfl, (Hp.le_refl _), rfl, hS1090⟩
          · refine stepN1 (a := 0) (b := 0) rfl rfl ?_
            · intro r_ w1095 h1096 hl1097 hJ_ hb_ hp_
              have hS1094 := hJ_
              obtain ⟨b0_, b1_, b2_, b3_, _⟩ := hb_
              obtain ⟨p0_, p1_, p2_, _⟩ := hp_
              have p0_ : r_ 103 = .slice (a7) ((cutS l 6)).length (c8) := p0_
              have p1_ : r_ 104 = .int .i64 (((j : Nat) : Int)) := p1_
              have p2_ : r_ 93 = .bool (false) := p2_
              refine WL_unguard (yl_eq (d := 93) rfl p2_) ?_
              obtain ⟨a1098, ha1099⟩ : ∃ a_ : Option Addr, a_ = (if c8 = 0 then a7 else (a7 : Option Addr).map (·.add (0 * 3))) := ⟨_, rfl⟩
              have hs1100 := (by rw [ha1099]; exact ((hf9.mono (((((((hl13.trans hl24).trans hl164).trans hl170).trans hl179).trans hl188).trans hl199).trans hl1097)).upto j (by omega)) : Sl RRec h1096 ((cutS l 6).take j) a1098 (c8))
              refine WL.val1 (R_cast (v' := .slice (a1098) (((cutS l 6).take j)).length (c8)) (R_slh (m := j) p0_ p1_ Tryd.underlying22 (Tryd.sizeOf35 _) (by first | rfl | (omega)) (by have hc_ := (hf9.mono (((((((hl13.trans hl24).trans hl164).trans hl170).trans hl179).trans hl188).trans hl199).trans hl1097)).1; omega)) (by rw [ha1099]; exact congrArg (fun q_ => Value.slice _ q_ _) (by (try simp only [List.length_take, List.length_append, List.length_cons, List.length_nil]); omega))) ?_
              refine WL.nil ?_
              exact ⟨rfl, _, _, rfl, (Hp.le_refl _), ⟨a1098, c8, rfl, hs1100⟩, hS1094⟩
          · refine stepN1 (a := 0) (b := 0) rfl rfl ?_
            · intro r_ w1105 h1106 hl1107 hJ_ hb_ hp_
              have hS1104 := hJ_
              obtain ⟨b0_, b1_, b2_, b3_, _⟩ := hb_
              obtain ⟨p0_, p1_, p2_, _⟩ := hp_
              obtain ⟨a1108, c1109, p0_, hs1110⟩ := p0_
              obtain ⟨a1111, c1112, p1_, hs1113⟩ := p1_
              have p2_ : r_ 93 = .bool (false) := p2_
              refine WL_unguard (yl_eq (d := 93) rfl p2_) ?_
              refine S_callF (vs := [.slice (a1108) (((cutS l 6).take j)).length (c1109)]) hS1104 Tryd.call12 (hmap1 p0_) (law_Refs (((cutS l 6).take j)) (a1108) (c1109) (by first | assumption | omega | exact hz | exact hz.take _ | exact rput_sz hz (by omega) (hz.2 _ (List.mem_of_getElem? hz_cutS_l_6_j)) | exact rput_sz (hz.take _) (by rw [List.length_take]; omega) (hz.2 _ (List.mem_of_getElem? hz_cutS_l_6_j)) | exact refPut_sz hz (by omega) (hz.2 _ (List.mem_of_getElem? hz_cutS_l_6_j)) | exact refPut_sz (hz.take _) (by rw [List.length_take]; omega) (hz.2 _ (List.mem_of_getElem? hz_cutS_l_6_j)) | exact szl_one (rfind_sz hz) | exact szl_one (refFind_sz hz) | exact SzL.len (hz) | exact SzL.seens (hz) | exact SzL.both (hz) | exact SzL.len (hz.take _) | exact SzL.seens (hz.take _) | exact SzL.both (hz.take _) | exact SzL.len (rput_sz hz (by omega) (hz.2 _ (List.mem_of_getElem? hz_cutS_l_6_j))) | exact SzL.seens (rput_sz hz (by omega) (hz.2 _ (List.mem_of_getElem? hz_cutS_l_6_j))) | exact SzL.both (rput_sz hz (by omega) (hz.2 _ (List.mem_of_getElem? hz_cutS_l_6_j))) | exact SzL.len (rput_sz (hz.take _) (by rw [List.length_take]; omega) (hz.2 _ (List.mem_of_getElem? hz_cutS_l_6_j))) | exact SzL.seens (rput_sz (hz.take _) (by rw [List.length_take]; omega) (hz.2 _ (List.mem_of_getElem? hz_cutS_l_6_j))) | exact SzL.both (rput_sz (hz.take _) (by rw [List.length_take]; omega) (hz.2 _ (List.mem_of_getElem? hz_cutS_l_6_j))) | exact SzL.len (szl_one (rfind_sz hz)) | exact SzL.seens (szl_one (rfind_sz hz)) | exact SzL.both (szl_one (rfind_sz hz)) | exact SzL.len (szl_one (refFind_sz hz)) | exact SzL.seens (szl_one (refFind_sz hz)) | exact SzL.both (szl_one (refFind_sz hz)) | exact SzR.s (hz.2 _ (List.mem_of_getElem? hz_cutS_l_6_j)) | exact SzR.f (hz.2 _ (List.mem_of_getElem? hz_cutS_l_6_j)) | (simp only [List.length_take]; omega)) (by first | assumption | omega | exact hz | exact hz.take _ | exact rput_sz hz (by omega) (hz.2 _ (List.mem_of_getElem? hz_cutS_l_6_j)) | exact rput_sz (hz.take _) (by rw [List.length_take]; omega) (hz.2 _ (List.mem_of_getElem? hz_cutS_l_6_j)) | exact refPut_sz hz (by omega) (hz.2 _ (List.mem_of_getElem? hz_cutS_l_6_j)) | exact refPut_sz (hz.take _) (by rw [List.length_take]; omega) (hz.2 _ (List.mem_of_getElem? hz_cutS_l_6_j)) | exact szl_one (rfind_sz hz) | exact szl_one (refFind_sz hz) | exact SzL.len (hz) | exact SzL.seens (hz) | exact SzL.both (hz) | exact SzL.len (hz.take _) | exact SzL.seens (hz.take _) | exact SzL.both (hz.take _) | exact SzL.len (rput_sz hz (by omega) (hz.2 _ (List.mem_of_getElem? hz_cutS_l_6_j))) | exact SzL.seens (rput_sz hz (by omega) (hz.2 _ (List.mem_of_getElem? hz_cutS_l_6_j))) | exact SzL.both (rput_sz hz (by omega) (hz.2 _ (List.mem_of_getElem? hz_cutS_l_6_j))) | exact SzL.len (rput_sz (hz.take _) (by rw [List.length_take]; omega) (hz.2 _ (List.mem_of_getElem? hz_cutS_l_6_j))) | exact SzL.seens (rput_sz (hz.take _) (by rw [List.length_take]; omega) (hz.2 _ (List.mem_of_getElem? hz_cutS_l_6_j))) | exact SzL.both (rput_sz (hz.take _) (by rw [List.length_take]; omega) (hz.2 _ (List.mem_of_getElem? hz_cutS_l_6_j))) | exact SzL.len (szl_one (rfind_sz hz)) | exact SzL.seens (szl_one (rfind_sz hz)) | exact SzL.both (szl_one (rfind_sz hz)) | exact SzL.len (szl_one (refFind_sz hz)) | exact SzL.seens (szl_one (refFind_sz hz)) | exact SzL.both (szl_one (refFind_sz hz)) | exact SzR.s (hz.2 _ (List.mem_of_getElem? hz_cutS_l_6_j)) | exact SzR.f (hz.2 _ (List.mem_of_getElem? hz_cutS_l_6_j)) | (simp only [List.length_take]; omega))) hs1110 ?_
              intro h1116 v1118 w1115 hl1117 hp1119 hS1114
              obtain ⟨a1120, c1121, rfl, hf1122⟩ := hp1119
              refine WL.nil ?_
              exact ⟨rfl, _, _, rfl, hl1117, ⟨a1120, c1121, rfl, hf1122⟩, hS1114⟩
          · refine stepN1 (a := 0) (b := 0) rfl rfl ?_
            · intro r_ w1127 h1128 hl1129 hJ_ hb_ hp_
              have hS1126 := hJ_
              obtain ⟨b0_, b1_, b2_, b3_, _⟩ := hb_
              obtain ⟨p0_, _⟩ := hp_
              have p0_ : r_ 93 = .bool (false) := p0_
              refine WL_unguard (yl_eq (d := 93) rfl p0_) ?_
              refine WL.val1 (R_move (v := .slice (a7) ((cutS l 6)).length (c8)) b0_) ?_
              refine WL.nil ?_
              exact ⟨rfl, _, _, rfl, (Hp.le_refl _), rfl, hS1126⟩
          · refine stepN1 (a := 0) (b := 0) rfl rfl ?_
            · intro r_ w1131 h1132 hl1133 hJ_ hb_ hp_
              have hS1130 := hJ_
              obtain ⟨b0_, b1_, b2_, b3_, _⟩ := hb_
              obtain ⟨p0_, p1_, p2_, _⟩ := hp_
              have p0_ : r_ 107 = .slice (a7) ((cutS l 6)).length (c8) := p0_
              obtain ⟨a1134, c1135, p1_, hs1136⟩ := p1_
              have p2_ : r_ 93 = .bool (false) := p2_
              refine WL_unguard (yl_eq (d := 93) rfl p2_) ?_
              refine S_callF (vs := [.slice (a7) ((cutS l 6)).length (c8)]) hS1130 Tryd.call12 (hmap1 p0_) (law_Refs ((cutS l 6)) (a7) (c8) (by first | assumption | omega | exact hz | exact hz.take _ | exact rput_sz hz (by omega) (hz.2 _ (List.mem_of_getElem? hz_cutS_l_6_j)) | exact rput_sz (hz.take _) (by rw [List.length_take]; omega) (hz.2 _ (List.mem_of_getElem? hz_cutS_l_6_j)) | exact refPut_sz hz (by omega) (hz.2 _ (List.mem_of_getElem? hz_cutS_l_6_j)) | exact refPut_sz (hz.take _) (by rw [List.length_take]; omega) (hz.2 _ (List.mem_of_getElem? hz_cutS_l_6_j)) | exact szl_one (rfind_sz hz) | exact szl_one (refFind_sz hz) | exact SzL.len (hz) | exact SzL.seens (hz) | exact SzL.both (hz) | exact SzL.len (hz.take _) | exact SzL.seens (hz.take _) | exact SzL.both (hz.take _) | exact SzL.len (rput_sz hz (by omega) (hz.2 _ (List.mem_of_getElem? hz_cutS_l_6_j))) | exact SzL.seens (rput_sz hz (by omega) (hz.2 _ (List.mem_of_getElem? hz_cutS_l_6_j))) | exact SzL.both (rput_sz hz (by omega) (hz.2 _ (List.mem_of_getElem? hz_cutS_l_6_j))) | exact SzL.len (rput_sz (hz.take _) (by rw [List.length_take]; omega) (hz.2 _ (List.mem_of_getElem? hz_cutS_l_6_j))) | exact SzL.seens (rput_sz (hz.take _) (by rw [List.length_take]; omega) (hz.2 _ (List.mem_of_getElem? hz_cutS_l_6_j))) | exact SzL.both (rput_sz (hz.take _) (by rw [List.length_take]; omega) (hz.2 _ (List.mem_of_getElem? hz_cutS_l_6_j))) | exact SzL.len (szl_one (rfind_sz hz)) | exact SzL.seens (szl_one (rfind_sz hz)) | exact SzL.both (szl_one (rfind_sz hz)) | exact SzL.len (szl_one (refFind_sz hz)) | exact SzL.seens (szl_one (refFind_sz hz)) | exact SzL.both (szl_one (refFind_sz hz)) | exact SzR.s (hz.2 _ (List.mem_of_getElem? hz_cutS_l_6_j)) | exact SzR.f (hz.2 _ (List.mem_of_getElem? hz_cutS_l_6_j)) | (simp only [List.length_take]; omega)) (by first | assumption | omega | exact hz | exact hz.take _ | exact rput_sz hz (by omega) (hz.2 _ (List.mem_of_getElem? hz_cutS_l_6_j)) | exact rput_sz (hz.take _) (by rw [List.length_take]; omega) (hz.2 _ (List.mem_of_getElem? hz_cutS_l_6_j)) | exact refPut_sz hz (by omega) (hz.2 _ (List.mem_of_getElem? hz_cutS_l_6_j)) | exact refPut_sz (hz.take _) (by rw [List.length_take]; omega) (hz.2 _ (List.mem_of_getElem? hz_cutS_l_6_j)) | exact szl_one (rfind_sz hz) | exact szl_one (refFind_sz hz) | exact SzL.len (hz) | exact SzL.seens (hz) | exact SzL.both (hz) | exact SzL.len (hz.take _) | exact SzL.seens (hz.take _) | exact SzL.both (hz.take _) | exact SzL.len (rput_sz hz (by omega) (hz.2 _ (List.mem_of_getElem? hz_cutS_l_6_j))) | exact SzL.seens (rput_sz hz (by omega) (hz.2 _ (List.mem_of_getElem? hz_cutS_l_6_j))) | exact SzL.both (rput_sz hz (by omega) (hz.2 _ (List.mem_of_getElem? hz_cutS_l_6_j))) | exact SzL.len (rput_sz (hz.take _) (by rw [List.length_take]; omega) (hz.2 _ (List.mem_of_getElem? hz_cutS_l_6_j))) | exact SzL.seens (rput_sz (hz.take _) (by rw [List.length_take]; omega) (hz.2 _ (List.mem_of_getElem? hz_cutS_l_6_j))) | exact SzL.both (rput_sz (hz.take _) (by rw [List.length_take]; omega) (hz.2 _ (List.mem_of_getElem? hz_cutS_l_6_j))) | exact SzL.len (szl_one (rfind_sz hz)) | exact SzL.seens (szl_one (rfind_sz hz)) | exact SzL.both (szl_one (rfind_sz hz)) | exact SzL.len (szl_one (refFind_sz hz)) | exact SzL.seens (szl_one (refFind_sz hz)) | exact SzL.both (szl_one (refFind_sz hz)) | exact SzR.s (hz.2 _ (List.mem_of_getElem? hz_cutS_l_6_j)) | exact SzR.f (hz.2 _ (List.mem_of_getElem? hz_cutS_l_6_j)) | (simp only [List.length_take]; omega))) (hf9.mono (((((((hl13.trans hl24).trans hl164).trans hl170).trans hl179).trans hl188).trans hl199).trans hl1133)) ?_
              intro h1139 v1141 w1138 hl1140 hp1142 hS1137
              obtain ⟨a1143, c1144, rfl, hf1145⟩ := hp1142
              refine WL.nil ?_
              exact ⟨rfl, _, _, rfl, hl1140, ⟨a1143, c1144, rfl, hf1145⟩, hS1137⟩
          · refine stepN1 (a := 0) (b := 0) rfl rfl ?_
            · intro r_ w1150 h1151 hl1152 hJ_ hb_ hp_
              have hS1149 := hJ_
              obtain ⟨b0_, b1_, b2_, b3_, _⟩ := hb_
              obtain ⟨p0_, _⟩ := hp_
              have p0_ : r_ 93 = .bool (false) := p0_
              refine WL_unguard (yl_eq (d := 93) rfl p0_) ?_
              refine WL.val1 (R_move (v := .int .i64 (((j : Nat) : Int))) b3_) ?_
              refine WL.nil ?_
              exact ⟨rfl, _, _, rfl, (Hp.le_refl _), rfl, hS1149⟩
          · intro r_ w1154 h1155 hl1156 hJ_ hb_ hf_
            have hS1153 := hJ_
            obtain ⟨b0_, b1_, b2_, b3_, _⟩ := hb_
            obtain ⟨q0_, q1_, q2_, q3_, q4_, q5_, q6_, q7_, q8_, q9_, q10_, q11_, q12_, q13_, q14_, q15_, q16_, q17_, q18_, q19_, q20_, q21_, q22_, q23_, q24_, q25_, q26_, q27_, q28_, q29_, q30_, q31_, q32_, q33_, q34_, q35_, q36_, q37_, q38_, q39_, q40_, q41_, q42_, q43_, q44_, q45_, q46_, q47_, q48_, q49_, _⟩ := hf_
            obtain ⟨a1157, c1158, q7_, hs1159⟩ := q7_
            obtain ⟨b1160, o1161, cs1162, q9_, hr1163, hat1164⟩ := q9_
            obtain ⟨a1165, c1166, a1168, c1169, q10_, hs1167, hs1170⟩ := q10_
            obtain ⟨a1171, c1172, q20_, hs1173⟩ := q20_
            obtain ⟨a1174, c1175, q21_, hs1176⟩ := q21_
            obtain ⟨a1177, c1178, q23_, hs1179⟩ := q23_
            obtain ⟨a1180, c1181, q25_, hs1182⟩ := q25_
            obtain ⟨b1183, o1184, cs1185, q27_, hr1186, hat1187⟩ := q27_
            obtain ⟨a1188, c1189, a1191, c1192, q28_, hs1190, hs1193⟩ := q28_
            obtain ⟨a1194, c1195, q29_, hs1196⟩ := q29_
            obtain ⟨a1197, c1198, q36_, hs1199⟩ := q36_
            obtain ⟨a1200, c1201, q41_, hs1202⟩ := q41_
            obtain ⟨a1203, c1204, q42_, hs1205⟩ := q42_
            obtain ⟨a1206, c1207, q45_, hs1208⟩ := q45_
            obtain ⟨a1209, c1210, q46_, hs1211⟩ := q46_
            obtain ⟨a1212, c1213, q48_, hs1214⟩ := q48_
            refine WL.frame (((0, .slice (a7) ((cutS l 6)).length (c8))) :: ((7, .slice (a16) ((mapS files 8 120)).length (c17))) :: ((8, .slice (ns_a) (ns).length (ns_c))) :: ((10, .int .i64 (((j : Nat) : Int)))) :: ((60, .slice (a7) ((cutS l 6)).length (c8))) :: ((61, .int .i64 (((j : Nat) : Int)))) :: ((62, .pointer (some ⟨b213, (o214 + j * RRec.n), none⟩))) :: ((63, .agg #[.string (B (z_cutS_l_6_j.name)), .slice (a219) (z_cutS_l_6_j.seens).length (c220), .slice (a221) (z_cutS_l_6_j.files).length (c222)])) :: ((64, .slice (a16) ((mapS files 8 120)).length (c17))) :: ((65, .bool (freshS z_cutS_l_6_j ((mapS files 8 120))))) :: ((66, .slice (a7) ((cutS l 6)).length (c8))) :: ((67, .slice (a1157) (((cutS l 6))).length (c1158))) :: ((68, .int .i64 (((j : Nat) : Int)))) :: ((69, .pointer (some ⟨b1160, o1161, none⟩))) :: ((70, .agg #[.string (B (z_cutS_l_6_j.name)), .slice (a1165) (z_cutS_l_6_j.seens).length (c1166), .slice (a1168) (z_cutS_l_6_j.files).length (c1169)])) :: ((71, .slice (a16) ((mapS files 8 120)).length (c17))) :: ((72, .bool (refFreshS z_cutS_l_6_j ((mapS files 8 120))))) :: ((73, .bool (false))) :: ((74, .bool (false))) :: ((75, .slice (a7) ((cutS l 6)).length (c8))) :: ((76, .slice (a7) ((cutS l 6)).length (c8))) :: ((77, .int .i64 (((j : Nat) : Int)))) :: ((78, .pointer (some ⟨b213, (o214 + j * RRec.n), none⟩))) :: ((79, .agg #[.string (B (z_cutS_l_6_j.name)), .slice (a219) (z_cutS_l_6_j.seens).length (c220), .slice (a221) (z_cutS_l_6_j.files).length (c222)])) :: ((80, .slice (a1171) ((rputS ((cutS l 6)) z_cutS_l_6_j)).length (c1172))) :: ((81, .slice (a1174) (((rputS ((cutS l 6)) z_cutS_l_6_j))).length (c1175))) :: ((82, .slice (a7) ((cutS l 6)).length (c8))) :: ((83, .slice (a1177) (((cutS l 6))).length (c1178))) :: ((84, .slice (a7) ((cutS l 6)).length (c8))) :: ((85, .slice (a1180) (((cutS l 6))).length (c1181))) :: ((86, .int .i64 (((j : Nat) : Int)))) :: ((87, .pointer (some ⟨b1183, o1184, none⟩))) :: ((88, .agg #[.string (B (z_cutS_l_6_j.name)), .slice (a1188) (z_cutS_l_6_j.seens).length (c1189), .slice (a1191) (z_cutS_l_6_j.files).length (c1192)])) :: ((89, .slice (a1194) ((refPutF z_cutS_l_6_j false (((cutS l 6))))).length (c1195))) :: ((90, .bool (sameS (((rputS ((cutS l 6)) z_cutS_l_6_j))) ((refPutF z_cutS_l_6_j false (((cutS l 6)))))))) :: ((91, .bool (false))) :: ((92, .bool (false))) :: ((93, .bool (false))) :: ((94, .slice (a7) ((cutS l 6)).length (c8))) :: ((95, .int .i64 (((j : Nat) : Int)))) :: ((96, .slice (a1197) (((cutS l 6).take j)).length (c1198))) :: ((97, .slice (a7) ((cutS l 6)).length (c8))) :: ((98, .int .i64 (((j : Nat) : Int)))) :: ((99, .pointer (some ⟨b213, (o214 + j * RRec.n), none⟩))) :: ((100, .agg #[.string (B (z_cutS_l_6_j.name)), .slice (a219) (z_cutS_l_6_j.seens).length (c220), .slice (a221) (z_cutS_l_6_j.files).length (c222)])) :: ((101, .slice (a1200) ((rputS (((cutS l 6).take j)) z_cutS_l_6_j)).length (c1201))) :: ((102, .slice (a1203) (((rputS (((cutS l 6).take j)) z_cutS_l_6_j))).length (c1204))) :: ((103, .slice (a7) ((cutS l 6)).length (c8))) :: ((104, .int .i64 (((j : Nat) : Int)))) :: ((105, .slice (a1206) (((cutS l 6).take j)).length (c1207))) :: ((106, .slice (a1209) ((((cutS l 6).take j))).length (c1210))) :: ((107, .slice (a7) ((cutS l 6)).length (c8))) :: ((108, .slice (a1212) (((cutS l 6))).length (c1213))) :: ((109, .int .i64 (((j : Nat) : Int)))) :: []) ⟨b0_, b1_, b2_, b3_, q0_, q1_, q2_, q3_, q4_, q5_, q6_, q7_, q8_, q9_, q10_, q11_, q12_, q13_, q14_, q15_, q16_, q17_, q18_, q19_, q20_, q21_, q22_, q23_, q24_, q25_, q26_, q27_, q28_, q29_, q30_, q31_, q32_, q33_, q34_, q35_, q36_, q37_, q38_, q39_, q40_, q41_, q42_, q43_, q44_, q45_, q46_, q47_, q48_, q49_, trivial⟩ (fun r_ => ?_)
            refine WL_unguard (yl_eq (d := 93) rfl rfl) ?_
            obtain ⟨b1215, o1216, cs1220, ha1217, hr1218, hat1219⟩ := hs1214.2 j z_cutS_l_6_j hz_cutS_l_6_j
            obtain ⟨a1221, c1222, a1223, c1224, rfl, hs1225, hs1226⟩ := hr1218
            refine WL.val1 (R_indexAddrE (i := ((j : Nat) : Int)) (m := j) ha1217 rfl rfl Tryd.underlying39 (Tryd.sizeOf38 _) (by first | rfl | (omega)) (by omega)) ?_
            refine WL_unguard (yl_eq (d := 93) rfl rfl) ?_
            refine WL.val1 (R_loadCA (cs := [.string (B (z_cutS_l_6_j.name)), .slice (a1221) (z_cutS_l_6_j.seens).length (c1222), .slice (a1223) (z_cutS_l_6_j.files).length (c1224)]) hS1153 rfl hat1219 Tryd.isAgg38 Tryd.sizeOf38 rfl) ?_
            refine WL_unguard (yl_eq (d := 93) rfl rfl) ?_
            refine S_callF (vs := [.slice (a1209) ((((cutS l 6).take j))).length (c1210), .agg #[.string (B (z_cutS_l_6_j.name)), .slice (a1221) (z_cutS_l_6_j.seens).length (c1222), .slice (a1223) (z_cutS_l_6_j.files).length (c1224)]]) hS1153 Tryd.call15 rfl (ref20_Put ((((cutS l 6).take j))) (a1209) (c1210) (z_cutS_l_6_j) (a1221) (c1222) (a1223) (c1224) (by first | assumption | omega | exact hz | exact hz.take _ | exact rput_sz hz (by omega) (hz.2 _ (List.mem_of_getElem? hz_cutS_l_6_j)) | exact rput_sz (hz.take _) (by rw [List.length_take]; omega) (hz.2 _ (List.mem_of_getElem? hz_cutS_l_6_j)) | exact refPut_sz hz (by omega) (hz.2 _ (List.mem_of_getElem? hz_cutS_l_6_j)) | exact refPut_sz (hz.take _) (by rw [List.length_take]; omega) (hz.2 _ (List.mem_of_getElem? hz_cutS_l_6_j)) | exact szl_one (rfind_sz hz) | exact szl_one (refFind_sz hz) | exact SzL.len (hz) | exact SzL.seens (hz) | exact SzL.both (hz) | exact SzL.len (hz.take _) | exact SzL.seens (hz.take _) | exact SzL.both (hz.take _) | exact SzL.len (rput_sz hz (by omega) (hz.2 _ (List.mem_of_getElem? hz_cutS_l_6_j))) | exact SzL.seens (rput_sz hz (by omega) (hz.2 _ (List.mem_of_getElem? hz_cutS_l_6_j))) | exact SzL.both (rput_sz hz (by omega) (hz.2 _ (List.mem_of_getElem? hz_cutS_l_6_j))) | exact SzL.len (rput_sz (hz.take _) (by rw [List.length_take]; omega) (hz.2 _ (List.mem_of_getElem? hz_cutS_l_6_j))) | exact SzL.seens (rput_sz (hz.take _) (by rw [List.length_take]; omega) (hz.2 _ (List.mem_of_getElem? hz_cutS_l_6_j))) | exact SzL.both (rput_sz (hz.take _) (by rw [List.length_take]; omega) (hz.2 _ (List.mem_of_getElem? hz_cutS_l_6_j))) | exact SzL.len (szl_one (rfind_sz hz)) | exact SzL.seens (szl_one (rfind_sz hz)) | exact SzL.both (szl_one (rfind_sz hz)) | exact SzL.len (szl_one (refFind_sz hz)) | exact SzL.seens (szl_one (refFind_sz hz)) | exact SzL.both (szl_one (refFind_sz hz)) | exact SzR.s (hz.2 _ (List.mem_of_getElem? hz_cutS_l_6_j)) | exact SzR.f (hz.2 _ (List.mem_of_getElem? hz_cutS_l_6_j)) | (simp only [List.length_take]; omega))) ⟨hs1211, hs1225, hs1226⟩ ?_
            intro h1229 v1231 w1228 hl1230 hp1232 hS1227
            obtain ⟨a1233, c1234, rfl, hf1235⟩ := hp1232
            refine WL_unguard (yl_eq (d := 93) rfl rfl) ?_
            refine S_callP (vs := [.slice (a1203) (((rputS (((cutS l 6).take j)) z_cutS_l_6_j))).length (c1204), .slice (a1233) ((refPutF z_cutS_l_6_j false ((((cutS l 6).take j))))).length (c1234)]) hS1227 Tryd.call13 rfl (ref20_Same (((rputS (((cutS l 6).take j)) z_cutS_l_6_j))) (a1203) (c1204) ((refPutF z_cutS_l_6_j false ((((cutS l 6).take j))))) (a1233) (c1234) (by first | assumption | omega | exact hz | exact hz.take _ | exact rput_sz hz (by omega) (hz.2 _ (List.mem_of_getElem? hz_cutS_l_6_j)) | exact rput_sz (hz.take _) (by rw [List.length_take]; omega) (hz.2 _ (List.mem_of_getElem? hz_cutS_l_6_j)) | exact refPut_sz hz (by omega) (hz.2 _ (List.mem_of_getElem? hz_cutS_l_6_j)) | exact refPut_sz (hz.take _) (by rw [List.length_take]; omega) (hz.2 _ (List.mem_of_getElem? hz_cutS_l_6_j)) | exact szl_one (rfind_sz hz) | exact szl_one (refFind_sz hz) | exact SzL.len (hz) | exact SzL.seens (hz) | exact SzL.both (hz) | exact SzL.len (hz.take _) | exact SzL.seens (hz.take _) | exact SzL.both (hz.take _) | exact SzL.len (rput_sz hz (by omega) (hz.2 _ (List.mem_of_getElem? hz_cutS_l_6_j))) | exact SzL.seens (rput_sz hz (by omega) (hz.2 _ (List.mem_of_getElem? hz_cutS_l_6_j))) | exact SzL.both (rput_sz hz (by omega) (hz.2 _ (List.mem_of_getElem? hz_cutS_l_6_j))) | exact SzL.len (rput_sz (hz.take _) (by rw [List.length_take]; omega) (hz.2 _ (List.mem_of_getElem? hz_cutS_l_6_j))) | exact SzL.seens (rput_sz (hz.take _) (by rw [List.length_take]; omega) (hz.2 _ (List.mem_of_getElem? hz_cutS_l_6_j))) | exact SzL.both (rput_sz (hz.take _) (by rw [List.length_take]; omega) (hz.2 _ (List.mem_of_getElem? hz_cutS_l_6_j))) | exact SzL.len (szl_one (rfind_sz hz)) | exact SzL.seens (szl_one (rfind_sz hz)) | exact SzL.both (szl_one (rfind_sz hz)) | exact SzL.len (szl_one (refFind_sz hz)) | exact SzL.seens (szl_one (refFind_sz hz)) | exact SzL.both (szl_one (refFind_sz hz)) | exact SzR.s (hz.2 _ (List.mem_of_getElem? hz_cutS_l_6_j)) | exact SzR.f (hz.2 _ (List.mem_of_getElem? hz_cutS_l_6_j)) | (simp only [List.length_take]; omega)) (by first | assumption | omega | exact hz | exact hz.take _ | exact rput_sz hz (by omega) (hz.2 _ (List.mem_of_getElem? hz_cutS_l_6_j)) | exact rput_sz (hz.take _) (by rw [List.length_take]; omega) (hz.2 _ (List.mem_of_getElem? hz_cutS_l_6_j)) | exact refPut_sz hz (by omega) (hz.2 _ (List.mem_of_getElem? hz_cutS_l_6_j)) | exact refPut_sz (hz.take _) (by rw [List.length_take]; omega) (hz.2 _ (List.mem_of_getElem? hz_cutS_l_6_j)) | exact szl_one (rfind_sz hz) | exact szl_one (refFind_sz hz) | exact SzL.len (hz) | exact SzL.seens (hz) | exact SzL.both (hz) | exact SzL.len (hz.take _) | exact SzL.seens (hz.take _) | exact SzL.both (hz.take _) | exact SzL.len (rput_sz hz (by omega) (hz.2 _ (List.mem_of_getElem? hz_cutS_l_6_j))) | exact SzL.seens (rput_sz hz (by omega) (hz.2 _ (List.mem_of_getElem? hz_cutS_l_6_j))) | exact SzL.both (rput_sz hz (by omega) (hz.2 _ (List.mem_of_getElem? hz_cutS_l_6_j))) | exact SzL.len (rput_sz (hz.take _) (by rw [List.length_take]; omega) (hz.2 _ (List.mem_of_getElem? hz_cutS_l_6_j))) | exact SzL.seens (rput_sz (hz.take _) (by rw [List.length_take]; omega) (hz.2 _ (List.mem_of_getElem? hz_cutS_l_6_j))) | exact SzL.both (rput_sz (hz.take _) (by rw [List.length_take]; omega) (hz.2 _ (List.mem_of_getElem? hz_cutS_l_6_j))) | exact SzL.len (szl_one (rfind_sz hz)) | exact SzL.seens (szl_one (rfind_sz hz)) | exact SzL.both (szl_one (rfind_sz hz)) | exact SzL.len (szl_one (refFind_sz hz)) | exact SzL.seens (szl_one (refFind_sz hz)) | exact SzL.both (szl_one (refFind_sz hz)) | exact SzR.s (hz.2 _ (List.mem_of_getElem? hz_cutS_l_6_j)) | exact SzR.f (hz.2 _ (List.mem_of_getElem? hz_cutS_l_6_j)) | (simp only [List.length_take]; omega))) ⟨(hs1205.mono hl1230), hf1235⟩ ?_
            intro w1237 hS1236
            refine WL_unguard (yl_eq (d := 93) rfl rfl) ?_
            refine WL.val1 (R_cast (R_not (b := sameS (((rputS (((cutS l 6).take j)) z_cutS_l_6_j))) ((refPutF z_cutS_l_6_j false ((((cutS l 6).take j)))))) rfl) (bool_false (by rw [rput_eq, sameS_refl]; rfl))) ?_
            refine WL.val1 (R_pick (cb := false) (v := .bool (false)) rfl (fun h => by cases h) (fun _ => rfl)) ?_
            refine WL.nil ?_
            refine then_normal ?_
            refine WC.condF rfl ?_
            refine WC.skip ?_
            refine block_normal ?_
            refine then_normal ?_
            refine WC.region ?_
            refine WL.val1 (R_move (v := .int .i64 (((j : Nat) : Int))) rfl) ?_
            refine WL.val1 (R_add_i (a := ((j : Nat) : Int)) (b := 1) rfl rfl (by omega)) ?_
            refine WL.val1 (R_assign (v := .int .i64 ((((j : Nat) : Int) + 1))) rfl) ?_
            refine WL.nil ?_
            refine then_normal ?_
            exact ⟨(j + 1), ⟨rfl, rfl, rfl, (by first | rfl | (apply congrArg (Value.int .i64); omega) | simp), trivial⟩, ⟨h1229, ((hl199.trans hl1156).trans hl1230), hS1236, (by (try dsimp only); first | assumption | omega | simp)⟩, (by first | (simp only []; omega) | (simp; omega))⟩
        · skip
          refine WC.exit ?_
          refine then_exit ?_
          refine then_exit ?_
          refine block_exit ?_
          refine then_normal ?_
          refine WC.seq ?_
          refine WC.seq ?_
          refine WC.region ?_
          refine WL.val1 (R_assign (v := .int .i64 (0)) rfl) ?_
          refine WL.nil ?_
          refine then_normal ?_
          refine WC.block ?_
          refine WC.loopL (σ := Nat)
            (fun (q_ : Nat) => (fun (k : Nat) => [(0, .slice (a7) ((cutS l 6)).length (c8)), (8, .slice (ns_a) (ns).length (ns_c)), (11, .int .i64 (((k : Nat) : Int)))]) (q_))
            (fun (q_ : Nat) (w_ : World) => (fun (k : Nat) => ∃ h1240 : Hp, h198.le h1240 ∧ St Γ h1240 (emp :: L) w_ ∧ (k ≤ ns.length)) (q_))
            (fun (q_ : Nat) => (fun (k : Nat) => ns.length - k) (q_)) (0) ?_ ?_ ?_
          · exact ⟨rfl, rfl, (by first | rfl | (apply congrArg (Value.int .i64); omega) | simp), trivial⟩
          · exact ⟨h198, Hp.le_refl _, hS196, (by first | assumption | omega | simp)⟩
          · rintro k r1242 w1239 ⟨h1240, hl1241, hS1238, k1⟩
            try dsimp only at k1
            refine WC.seq ?_
            refine WC.seq ?_
            refine WC.region ?_
            refine WL.val1 (R_move (v := .int .i64 (((k : Nat) : Int))) rfl) ?_
            refine WL.val1 (R_move (v := .slice (ns_a) (ns).length (ns_c)) rfl) ?_
            refine WL.val1 (R_len_slice (n := (ns).length) rfl Tryd.underlying24) ?_
            refine WL.val1 (R_lss (a := ((k : Nat) : Int)) (b := (((ns).length : Nat) : Int)) rfl rfl) ?_
            refine WL.nil ?_
            refine then_normal ?_
            refine WC.condP (((k : Nat) : Int) < (((ns).length : Nat) : Int)) rfl (fun c4 => ?_) (fun c4 => ?_)
            · skip
              refine WC.skip ?_
              refine then_normal ?_
              refine WC.seq ?_
              refine WC.block ?_
              refine WC.seq ?_
              refine WC.region ?_
              refine WL.val1 (R_move (v := .slice (a7) ((cutS l 6)).length (c8)) rfl) ?_
              refine WL.val1 (R_move (v := .slice (ns_a) (ns).length (ns_c)) rfl) ?_
              refine WL.val1 (R_move (v := .int .i64 (((k : Nat) : Int))) rfl) ?_
              obtain ⟨z_ns_k, hz_ns_k⟩ : ∃ z, (ns)[k]? = some z := ⟨_, List.getElem?_eq_getElem (by omega)⟩
              obtain ⟨b1243, o1244, cs1248, ha1245, hr1246, hat1247⟩ := (hs165.mono ((((hl170.trans hl179).trans hl188).trans hl199).trans hl1241)).2 k z_ns_k hz_ns_k
              subst hr1246
              refine WL.val1 (R_indexAddrE (i := ((k : Nat) : Int)) (m := k) ha1245 rfl rfl Tryd.underlying24 (Tryd.sizeOf9 _) (by first | rfl | (omega)) (by omega)) ?_
              refine WL.val1 (R_loadC (v := .string (B (z_ns_k))) hS1238 rfl hat1247 Tryd.isAgg9 rfl) ?_
              refine S_callF (vs := [.slice (a7) ((cutS l 6)).length (c8), .string (B (z_ns_k))]) hS1238 Tryd.call16 rfl (rec_Find ((cutS l 6)) (a7) (c8) (z_ns_k) (by first | assumption | omega | exact hz | exact hz.take _ | exact rput_sz hz (by omega) (hz.2 _ (List.mem_of_getElem? hz_cutS_l_6_j)) | exact rput_sz (hz.take _) (by rw [List.length_take]; omega) (hz.2 _ (List.mem_of_getElem? hz_cutS_l_6_j)) | exact refPut_sz hz (by omega) (hz.2 _ (List.mem_of_getElem? hz_cutS_l_6_j)) | exact refPut_sz (hz.take _) (by rw [List.length_take]; omega) (hz.2 _ (List.mem_of_getElem? hz_cutS_l_6_j)) | exact szl_one (rfind_sz hz) | exact szl_one (refFind_sz hz) | exact SzL.len (hz) | exact SzL.seens (hz) | exact SzL.both (hz) | exact SzL.len (hz.take _) | exact SzL.seens (hz.take _) | exact SzL.both (hz.take _) | exact SzL.len (rput_sz hz (by omega) (hz.2 _ (List.mem_of_getElem? hz_cutS_l_6_j))) | exact SzL.seens (rput_sz hz (by omega) (hz.2 _ (List.mem_of_getElem? hz_cutS_l_6_j))) | exact SzL.both (rput_sz hz (by omega) (hz.2 _ (List.mem_of_getElem? hz_cutS_l_6_j))) | exact SzL.len (rput_sz (hz.take _) (by rw [List.length_take]; omega) (hz.2 _ (List.mem_of_getElem? hz_cutS_l_6_j))) | exact SzL.seens (rput_sz (hz.take _) (by rw [List.length_take]; omega) (hz.2 _ (List.mem_of_getElem? hz_cutS_l_6_j))) | exact SzL.both (rput_sz (hz.take _) (by rw [List.length_take]; omega) (hz.2 _ (List.mem_of_getElem? hz_cutS_l_6_j))) | exact SzL.len (szl_one (rfind_sz hz)) | exact SzL.seens (szl_one (rfind_sz hz)) | exact SzL.both (szl_one (rfind_sz hz)) | exact SzL.len (szl_one (refFind_sz hz)) | exact SzL.seens (szl_one (refFind_sz hz)) | exact SzL.both (szl_one (refFind_sz hz)) | exact SzR.s (hz.2 _ (List.mem_of_getElem? hz_cutS_l_6_j)) | exact SzR.f (hz.2 _ (List.mem_of_getElem? hz_cutS_l_6_j)) | (simp only [List.length_take]; omega)) (by first | assumption | omega | exact hz | exact hz.take _ | exact rput_sz hz (by omega) (hz.2 _ (List.mem_of_getElem? hz_cutS_l_6_j)) | exact rput_sz (hz.take _) (by rw [List.length_take]; omega) (hz.2 _ (List.mem_of_getElem? hz_cutS_l_6_j)) | exact refPut_sz hz (by omega) (hz.2 _ (List.mem_of_getElem? hz_cutS_l_6_j)) | exact refPut_sz (hz.take _) (by rw [List.length_take]; omega) (hz.2 _ (List.mem_of_getElem? hz_cutS_l_6_j)) | exact szl_one (rfind_sz hz) | exact szl_one (refFind_sz hz) | exact SzL.len (hz) | exact SzL.seens (hz) | exact SzL.both (hz) | exact SzL.len (hz.take _) | exact SzL.seens (hz.take _) | exact SzL.both (hz.take _) | exact SzL.len (rput_sz hz (by omega) (hz.2 _ (List.mem_of_getElem? hz_cutS_l_6_j))) | exact SzL.seens (rput_sz hz (by omega) (hz.2 _ (List.mem_of_getElem? hz_cutS_l_6_j))) | exact SzL.both (rput_sz hz (by omega) (hz.2 _ (List.mem_of_getElem? hz_cutS_l_6_j))) | exact SzL.len (rput_sz (hz.take _) (by rw [List.length_take]; omega) (hz.2 _ (List.mem_of_getElem? hz_cutS_l_6_j))) | exact SzL.seens (rput_sz (hz.take _) (by rw [List.length_take]; omega) (hz.2 _ (List.mem_of_getElem? hz_cutS_l_6_j))) | exact SzL.both (rput_sz (hz.take _) (by rw [List.length_take]; omega) (hz.2 _ (List.mem_of_getElem? hz_cutS_l_6_j))) | exact SzL.len (szl_one (rfind_sz hz)) | exact SzL.seens (szl_one (rfind_sz hz)) | exact SzL.both (szl_one (rfind_sz hz)) | exact SzL.len (szl_one (refFind_sz hz)) | exact SzL.seens (szl_one (refFind_sz hz)) | exact SzL.both (szl_one (refFind_sz hz)) | exact SzR.s (hz.2 _ (List.mem_of_getElem? hz_cutS_l_6_j)) | exact SzR.f (hz.2 _ (List.mem_of_getElem? hz_cutS_l_6_j)) | (simp only [List.length_take]; omega))) (hf9.mono (((((((hl13.trans hl24).trans hl164).trans hl170).trans hl179).trans hl188).trans hl199).trans hl1241)) ?_
              intro h1251 v1253 w1250 hl1252 hp1254 hS1249
              obtain ⟨a1255, c1256, a21257, c21258, rfl, hf1259, hf1260⟩ := hp1254
              refine WL.val1 (R_move (v := .tuple #[.agg #[.string (B ((rfindS ((cutS l 6)) z_ns_k).1.name)), .slice (a1255) ((rfindS ((cutS l 6)) z_ns_k).1.seens).length (c1256), .slice (a21257) ((rfindS ((cutS l 6)) z_ns_k).1.files).length (c21258)], .bool ((rfindS ((cutS l 6)) z_ns_k).2)]) rfl) ?_
              refine WL.val1 (R_extract (vs := ([.agg #[.string (B ((rfindS ((cutS l 6)) z_ns_k).1.name)), .slice (a1255) ((rfindS ((cutS l 6)) z_ns_k).1.seens).length (c1256), .slice (a21257) ((rfindS ((cutS l 6)) z_ns_k).1.files).length (c21258)], .bool ((rfindS ((cutS l 6)) z_ns_k).2)] : List Value).toArray) (v := .agg #[.string (B ((rfindS ((cutS l 6)) z_ns_k).1.name)), .slice (a1255) ((rfindS ((cutS l 6)) z_ns_k).1.seens).length (c1256), .slice (a21257) ((rfindS ((cutS l 6)) z_ns_k).1.files).length (c21258)]) rfl rfl) ?_
              refine WL.val1 (R_extract (vs := ([.agg #[.string (B ((rfindS ((cutS l 6)) z_ns_k).1.name)), .slice (a1255) ((rfindS ((cutS l 6)) z_ns_k).1.seens).length (c1256), .slice (a21257) ((rfindS ((cutS l 6)) z_ns_k).1.files).length (c21258)], .bool ((rfindS ((cutS l 6)) z_ns_k).2)] : List Value).toArray) (v := .bool ((rfindS ((cutS l 6)) z_ns_k).2)) rfl rfl) ?_
              refine S_alloc hS1249 Tryd.zeroValue35 ?_
              intro w1262 hS1261
              refine S_store (i := 0) (b := w1250.heap.size) (l := [.string (B (([] : Str))), .slice none 0 0, .slice none 0 0]) (l' := [.string (B ((rfindS ((cutS l 6)) z_ns_k).1.name)), .slice (a1255) ((rfindS ((cutS l 6)) z_ns_k).1.seens).length (c1256), .slice (a21257) ((rfindS ((cutS l 6)) z_ns_k).1.files).length (c21258)]) (vs := [.string (B ((rfindS ((cutS l 6)) z_ns_k).1.name)), .slice (a1255) ((rfindS ((cutS l 6)) z_ns_k).1.seens).length (c1256), .slice (a21257) ((rfindS ((cutS l 6)) z_ns_k).1.files).length (c21258)]) (v := .agg #[.string (B ((rfindS ((cutS l 6)) z_ns_k).1.name)), .slice (a1255) ((rfindS ((cutS l 6)) z_ns_k).1.seens).length (c1256), .slice (a21257) ((rfindS ((cutS l 6)) z_ns_k).1.files).length (c21258)]) hS1261 rfl rfl rfl Tryd.sizeOf35 rfl rfl rfl (Nat.le_of_ble_eq_true rfl) rfl rfl ?_
              intro w1264 hS1263
              refine WL.val1 (R_assign (v := .bool ((rfindS ((cutS l 6)) z_ns_k).2)) rfl) ?_
              refine WL.nil ?_
              refine then_normal ?_
              refine WC.seq ?_
              refine WC.drawN (J := (fun (k_ : Nat) => (match k_ with | 0 => fun h_ _ w_ => St Γ h_ (row (w1250.heap.size) [.string (B ((rfindS ((cutS l 6)) z_ns_k).1.name)), .slice (a1255) ((rfindS ((cutS l 6)) z_ns_k).1.seens).length (c1256), .slice (a21257) ((rfindS ((cutS l 6)) z_ns_k).1.files).length (c21258)] 35 :: emp :: L) w_ | 1 => fun h_ r_ w_ => ∃ (j10_b : Nat), r_ 14 = .pointer (some ⟨j10_b, 0, none⟩) ∧ St Γ h_ (row (j10_b) [.string (B (([] : Str))), .slice none 0 0, .slice none 0 0] 38 :: row (w1250.heap.size) [.string (B ((rfindS ((cutS l 6)) z_ns_k).1.name)), .slice (a1255) ((rfindS ((cutS l 6)) z_ns_k).1.seens).length (c1256), .slice (a21257) ((rfindS ((cutS l 6)) z_ns_k).1.files).length (c21258)] 35 :: emp :: L) w_ | _ => fun h_ r_ w_ => ∃ (j10_b : Nat) (j11_a1 : Option Addr) (j11_c1 : Nat) (j11_a2 : Option Addr) (j11_c2 : Nat), r_ 14 = .pointer (some ⟨j10_b, 0, none⟩) ∧ Sl RSeen2 h_ ((refFindF z_ns_k (((cutS l 6)))).1.seens) (j11_a1) (j11_c1) ∧ Sl RFile h_ ((refFindF z_ns_k (((cutS l 6)))).1.files) (j11_a2) (j11_c2) ∧ St Γ h_ (row (j10_b) [.string (B ((refFindF z_ns_k (((cutS l 6)))).1.name)), .slice (j11_a1) ((refFindF z_ns_k (((cutS l 6)))).1.seens).length (j11_c1), .slice (j11_a2) ((refFindF z_ns_k (((cutS l 6)))).1.files).length (j11_c2)] 38 :: row (w1250.heap.size) [.string (B ((rfindS ((cutS l 6)) z_ns_k).1.name)), .slice (a1255) ((rfindS ((cutS l 6)) z_ns_k).1.seens).length (c1256), .slice (a21257) ((rfindS ((cutS l 6)) z_ns_k).1.files).length (c21258)] 35 :: emp :: L) w_ : Hp → (Nat → Value) → World → Prop))) 12 [10, 11] [[0, 1, 2, 3, 4, 5, 6, 7, 8, 9, 11], [9]] [[11], []] [(0, .slice (a7) ((cutS l 6)).length (c8)), (8, .slice (ns_a) (ns).length (ns_c)), (11, .int .i64 (((k : Nat) : Int))), (12, .pointer (some ⟨w1250.heap.size, 0, none⟩)), (13, .bool ((rfindS ((cutS l 6)) z_ns_k).2))] [fun _ v => v = .slice (a7) ((cutS l 6)).length (c8), fun h v => ∃ (a0_ : Option Addr) (c0_ : Nat), v = .slice (a0_) (((cutS l 6))).length (c0_) ∧ Sl RRec2 h (((cutS l 6))) (a0_) (c0_), fun _ v => v = .slice (ns_a) (ns).length (ns_c), fun _ v => v = .int .i64 (((k : Nat) : Int)), fun _ v => v = .pointer (some ⟨b1243, (o1244 + k * Rstr.n), none⟩), fun _ v => v = .string (B (z_ns_k)), fun h v => ∃ (a0_ : Option Addr) (c0_ : Nat) (a2_ : Option Addr) (c2_ : Nat), v = .tuple #[.agg #[.string (B ((refFindF z_ns_k (((cutS l 6)))).1.name)), .slice (a0_) ((refFindF z_ns_k (((cutS l 6)))).1.seens).length (c0_), .slice (a2_) ((refFindF z_ns_k (((cutS l 6)))).1.files).length (c2_)], .bool ((refFindF z_ns_k (((cutS l 6)))).2)] ∧ Sl RSeen2 h ((refFindF z_ns_k (((cutS l 6)))).1.seens) (a0_) (c0_) ∧ Sl RFile h ((refFindF z_ns_k (((cutS l 6)))).1.files) (a2_) (c2_), fun h v => ∃ (a0_ : Option Addr) (c0_ : Nat) (a2_ : Option Addr) (c2_ : Nat), v = .tuple #[.agg #[.string (B ((refFindF z_ns_k (((cutS l 6)))).1.name)), .slice (a0_) ((refFindF z_ns_k (((cutS l 6)))).1.seens).length (c0_), .slice (a2_) ((refFindF z_ns_k (((cutS l 6)))).1.files).length (c2_)], .bool ((refFindF z_ns_k (((cutS l 6)))).2)] ∧ Sl RSeen2 h ((refFindF z_ns_k (((cutS l 6)))).1.seens) (a0_) (c0_) ∧ Sl RFile h ((refFindF z_ns_k (((cutS l 6)))).1.files) (a2_) (c2_), fun h v => ∃ (a0_ : Option Addr) (c0_ : Nat) (a2_ : Option Addr) (c2_ : Nat), v = .agg #[.string (B ((refFindF z_ns_k (((cutS l 6)))).1.name)), .slice (a0_) ((refFindF z_ns_k (((cutS l 6)))).1.seens).length (c0_), .slice (a2_) ((refFindF z_ns_k (((cutS l 6)))).1.files).length (c2_)] ∧ Sl RSeen2 h ((refFindF z_ns_k (((cutS l 6)))).1.seens) (a0_) (c0_) ∧ Sl RFile h ((refFindF z_ns_k (((cutS l 6)))).1.files) (a2_) (c2_), fun _ v => v = .bool ((refFindF z_ns_k (((cutS l 6)))).2), fun _ _ => True, fun _ _ => True] hS1263 (fun _ _ _ _ e_ k_ => St.ext k_ e_) (by kernel_rfl) (by kernel_rfl) (by decide) (MonoFs.pure (MonoFs.cons (fun _ _ _ hl ⟨x0, x1, e, y0⟩ => ⟨x0, x1, e, y0.mono hl⟩) (MonoFs.pure (MonoFs.pure (MonoFs.pure (MonoFs.pure (MonoFs.cons (fun _ _ _ hl ⟨x0, x1, x2, x3, e, y0, y1⟩ => ⟨x0, x1, x2, x3, e, y0.mono hl, y1.mono hl⟩) (MonoFs.cons (fun _ _ _ hl ⟨x0, x1, x2, x3, e, y0, y1⟩ => ⟨x0, x1, x2, x3, e, y0.mono hl, y1.mono hl⟩) (MonoFs.cons (fun _ _ _ hl ⟨x0, x1, x2, x3, e, y0, y1⟩ => ⟨x0, x1, x2, x3, e, y0.mono hl, y1.mono hl⟩) (MonoFs.pure (MonoFs.pure (MonoFs.pure MonoFs.nil)))))))))))) ⟨rfl, rfl, rfl, rfl, rfl, trivial⟩ ⟨?_, ?_, ?_, ?_, ?_, ?_, ?_, ?_, ?_, ?_, ?_, ?_, trivial⟩ ?_
              · refine stepN2 (a := 0) (b := 1) rfl rfl rfl ?_ ?_
                · intro r_ w1424 h1425 hl1426 hJ_ hb_ hp_
                  have hS1423 := hJ_
                  obtain ⟨b0_, b1_, b2_, b3_, b4_, _⟩ := hb_
                  refine WL.val1 (R_move (v := .slice (a7) ((cutS l 6)).length (c8)) b0_) ?_
                  refine WL.nil ?_
                  exact ⟨rfl, _, _, rfl, (Hp.le_refl _), rfl, hS1423⟩
                · intro r_ w1428 h1429 hl1430 hJ_ hb_ hp_
                  obtain ⟨j10_b, v14_, hS1427⟩ := hJ_
                  obtain ⟨b0_, b1_, b2_, b3_, b4_, _⟩ := hb_
                  refine WL.val1 (R_move (v := .slice (a7) ((cutS l 6)).length (c8)) b0_) ?_
                  refine WL.nil ?_
                  exact ⟨rfl, _, _, rfl, (Hp.le_refl _), rfl, j10_b, v14_, hS1427⟩
              · refine stepN2 (a := 0) (b := 1) rfl rfl rfl ?_ ?_
                · intro r_ w1432 h1433 hl1434 hJ_ hb_ hp_
                  have hS1431 := hJ_
                  obtain ⟨b0_, b1_, b2_, b3_, b4_, _⟩ := hb_
                  obtain ⟨p0_, _⟩ := hp_
                  have p0_ : r_ 132 = .slice (a7) ((cutS l 6)).length (c8) := p0_
                  refine S_callF (vs := [.slice (a7) ((cutS l 6)).length (c8)]) hS1431 Tryd.call12 (hmap1 p0_) (law_Refs ((cutS l 6)) (a7) (c8) (by first | assumption | omega | exact hz | exact hz.take _ | exact rput_sz hz (by omega) (hz.2 _ (List.mem_of_getElem? hz_cutS_l_6_j)) | exact rput_sz (hz.take _) (by rw [List.length_take]; omega) (hz.2 _ (List.mem_of_getElem? hz_cutS_l_6_j)) | exact refPut_sz hz (by omega) (hz.2 _ (List.mem_of_getElem? hz_cutS_l_6_j)) | exact refPut_sz (hz.take _) (by rw [List.length_take]; omega) (hz.2 _ (List.mem_of_getElem? hz_cutS_l_6_j)) | exact szl_one (rfind_sz hz) | exact szl_one (refFind_sz hz) | exact SzL.len (hz) | exact SzL.seens (hz) | exact SzL.both (hz) | exact SzL.len (hz.take _) | exact SzL.seens (hz.take _) | exact SzL.both (hz.take _) | exact SzL.len (rput_sz hz (by omega) (hz.2 _ (List.mem_of_getElem? hz_cutS_l_6_j))) | exact SzL.seens (rput_sz hz (by omega) (hz.2 _ (List.mem_of_getElem? hz_cutS_l_6_j))) | exact SzL.both (rput_sz hz (by omega) (hz.2 _ (List.mem_of_getElem? hz_cutS_l_6_j))) | exact SzL.len (rput_sz (hz.take _) (by rw [List.length_take]; omega) (hz.2 _ (List.mem_of_getElem? hz_cutS_l_6_j))) | exact SzL.seens (rput_sz (hz.take _) (by rw [List.length_take]; omega) (hz.2 _ (List.mem_of_getElem? hz_cutS_l_6_j))) | exact SzL.both (rput_sz (hz.take _) (by rw [List.length_take]; omega) (hz.2 _ (List.mem_of_getElem? hz_cutS_l_6_j))) | exact SzL.len (szl_one (rfind_sz hz)) | exact SzL.seens (szl_one (rfind_sz hz)) | exact SzL.both (szl_one (rfind_sz hz)) | exact SzL.len (szl_one (refFind_sz hz)) | exact SzL.seens (szl_one (refFind_sz hz)) | exact SzL.both (szl_one (refFind_sz hz)) | exact SzR.s (hz.2 _ (List.mem_of_getElem? hz_cutS_l_6_j)) | exact SzR.f (hz.2 _ (List.mem_of_getElem? hz_cutS_l_6_j)) | (simp only [List.length_take]; omega)) (by first | assumption | omega | exact hz | exact hz.take _ | exact rput_sz hz (by omega) (hz.2 _ (List.mem_of_getElem? hz_cutS_l_6_j)) | exact rput_sz (hz.take _) (by rw [List.length_take]; omega) (hz.2 _ (List.mem_of_getElem? hz_cutS_l_6_j)) | exact refPut_sz hz (by omega) (hz.2 _ (List.mem_of_getElem? hz_cutS_l_6_j)) | exact refPut_sz (hz.take _) (by rw [List.length_take]; omega) (hz.2 _ (List.mem_of_getElem? hz_cutS_l_6_j)) | exact szl_one (rfind_sz hz) | exact szl_one (refFind_sz hz) | exact SzL.len (hz) | exact SzL.seens (hz) | exact SzL.both (hz) | exact SzL.len (hz.take _) | exact SzL.seens (hz.take _) | exact SzL.both (hz.take _) | exact SzL.len (rput_sz hz (by omega) (hz.2 _ (List.mem_of_getElem? hz_cutS_l_6_j))) | exact SzL.seens (rput_sz hz (by omega) (hz.2 _ (List.mem_of_getElem? hz_cutS_l_6_j))) | exact SzL.both (rput_sz hz (by omega) (hz.2 _ (List.mem_of_getElem? hz_cutS_l_6_j))) | exact SzL.len (rput_sz (hz.take _) (by rw [List.length_take]; omega) (hz.2 _ (List.mem_of_getElem? hz_cutS_l_6_j))) | exact SzL.seens (rput_sz (hz.take _) (by rw [List.length_take]; omega) (hz.2 _ (List.mem_of_getElem? hz_cutS_l_6_j))) | exact SzL.both (rput_sz (hz.take _) (by rw [List.length_take]; omega) (hz.2 _ (List.mem_of_getElem? hz_cutS_l_6_j))) | exact SzL.len (szl_one (rfind_sz hz)) | exact SzL.seens (szl_one (rfind_sz hz)) | exact SzL.both (szl_one (rfind_sz hz)) | exact SzL.len (szl_one (refFind_sz hz)) | exact SzL.seens (szl_one (refFind_sz hz)) | exact SzL.both (szl_one (refFind_sz hz)) | exact SzR.s (hz.2 _ (List.mem_of_getElem? hz_cutS_l_6_j)) | exact SzR.f (hz.2 _ (List.mem_of_getElem? hz_cutS_l_6_j)) | (simp only [List.length_take]; omega))) (hf9.mono (((((((((hl13.trans hl24).trans hl164).trans hl170).trans hl179).trans hl188).trans hl199).trans hl1241).trans hl1252).trans hl1434)) ?_
                  intro h1437 v1439 w1436 hl1438 hp1440 hS1435
                  obtain ⟨a1441, c1442, rfl, hf1443⟩ := hp1440
                  refine WL.nil ?_
                  exact ⟨rfl, _, _, rfl, hl1438, ⟨a1441, c1442, rfl, hf1443⟩, hS1435⟩
                · intro r_ w1448 h1449 hl1450 hJ_ hb_ hp_
                  obtain ⟨j10_b, v14_, hS1447⟩ := hJ_
                  obtain ⟨b0_, b1_, b2_, b3_, b4_, _⟩ := hb_
                  obtain ⟨p0_, _⟩ := hp_
                  have p0_ : r_ 132 = .slice (a7) ((cutS l 6)).length (c8) := p0_
                  refine S_callF (vs := [.slice (a7) ((cutS l 6)).length (c8)]) hS1447 Tryd.call12 (hmap1 p0_) (law_Refs ((cutS l 6)) (a7) (c8) (by first | assumption | omega | exact hz | exact hz.take _ | exact rput_sz hz (by omega) (hz.2 _ (List.mem_of_getElem? hz_cutS_l_6_j)) | exact rput_sz (hz.take _) (by rw [List.length_take]; omega) (hz.2 _ (List.mem_of_getElem? hz_cutS_l_6_j)) | exact refPut_sz hz (by omega) (hz.2 _ (List.mem_of_getElem? hz_cutS_l_6_j)) | exact refPut_sz (hz.take _) (by rw [List.length_take]; omega) (hz.2 _ (List.mem_of_getElem? hz_cutS_l_6_j)) | exact szl_one (rfind_sz hz) | exact szl_one (refFind_sz hz) | exact SzL.len (hz) | exact SzL.seens (hz) | exact SzL.both (hz) | exact SzL.len (hz.take _) | exact SzL.seens (hz.take _) | exact SzL.both (hz.take _) | exact SzL.len (rput_sz hz (by omega) (hz.2 _ (List.mem_of_getElem? hz_cutS_l_6_j))) | exact SzL.seens (rput_sz hz (by omega) (hz.2 _ (List.mem_of_getElem? hz_cutS_l_6_j))) | exact SzL.both (rput_sz hz (by omega) (hz.2 _ (List.mem_of_getElem? hz_cutS_l_6_j))) | exact SzL.len (rput_sz (hz.take _) (by rw [List.length_take]; omega) (hz.2 _ (List.mem_of_getElem? hz_cutS_l_6_j))) | exact SzL.seens (rput_sz (hz.take _) (by rw [List.length_take]; omega) (hz.2 _ (List.mem_of_getElem? hz_cutS_l_6_j))) | exact SzL.both (rput_sz (hz.take _) (by rw [List.length_take]; omega) (hz.2 _ (List.mem_of_getElem? hz_cutS_l_6_j))) | exact SzL.len (szl_one (rfind_sz hz)) | exact SzL.seens (szl_one (rfind_sz hz)) | exact SzL.both (szl_one (rfind_sz hz)) | exact SzL.len (szl_one (refFind_sz hz)) | exact SzL.seens (szl_one (refFind_sz hz)) | exact SzL.both (szl_one (refFind_sz hz)) | exact SzR.s (hz.2 _ (List.mem_of_getElem? hz_cutS_l_6_j)) | exact SzR.f (hz.2 _ (List.mem_of_getElem? hz_cutS_l_6_j)) | (simp only [List.length_take]; omega)) (by first | assumption | omega | exact hz | exact hz.take _ | exact rput_sz hz (by omega) (hz.2 _ (List.mem_of_getElem? hz_cutS_l_6_j)) | exact rput_sz (hz.take _) (by rw [List.length_take]; omega) (hz.2 _ (List.mem_of_getElem? hz_cutS_l_6_j)) | exact refPut_sz hz (by omega) (hz.2 _ (List.mem_of_getElem? hz_cutS_l_6_j)) | exact refPut_sz (hz.take _) (by rw [List.length_take]; omega) (hz.2 _ (List.mem_of_getElem? hz_cutS_l_6_j)) | exact szl_one (rfind_sz hz) | exact szl_one (refFind_sz hz) | exact SzL.len (hz) | exact SzL.seens (hz) | exact SzL.both (hz) | exact SzL.len (hz.take _) | exact SzL.seens (hz.take _) | exact SzL.both (hz.take _) | exact SzL.len (rput_sz hz (by omega) (hz.2 _ (List.mem_of_getElem? hz_cutS_l_6_j))) | exact SzL.seens (rput_sz hz (by omega) (hz.2 _ (List.mem_of_getElem? hz_cutS_l_6_j))) | exact SzL.both (rput_sz hz (by omega) (hz.2 _ (List.mem_of_getElem? hz_cutS_l_6_j))) | exact SzL.len (rput_sz (hz.take _) (by rw [List.length_take]; omega) (hz.2 _ (List.mem_of_getElem? hz_cutS_l_6_j))) | exact SzL.seens (rput_sz (hz.take _) (by rw [List.length_take]; omega) (hz.2 _ (List.mem_of_getElem? hz_cutS_l_6_j))) | exact SzL.both (rput_sz (hz.take _) (by rw [List.length_take]; omega) (hz.2 _ (List.mem_of_getElem? hz_cutS_l_6_j))) | exact SzL.len (szl_one (rfind_sz hz)) | exact SzL.seens (szl_one (rfind_sz hz)) | exact SzL.both (szl_one (rfind_sz hz)) | exact SzL.len (szl_one (refFind_sz hz)) | exact SzL.seens (szl_one (refFind_sz hz)) | exact SzL.both (szl_one (refFind_sz hz)) | exact SzR.s (hz.2 _ (List.mem_of_getElem? hz_cutS_l_6_j)) | exact SzR.f (hz.2 _ (List.mem_of_getElem? hz_cutS_l_6_j)) | (simp only [List.length_take]; omega))) (hf9.mono (((((((((hl13.trans hl24).trans hl164).trans hl170).trans hl179).trans hl188).trans hl199).trans hl1241).trans hl1252).trans hl1450)) ?_
                  intro h1453 v1455 w1452 hl1454 hp1456 hS1451
                  obtain ⟨a1457, c1458, rfl, hf1459⟩ := hp1456
                  refine WL.nil ?_
                  exact ⟨rfl, _, _, rfl, hl1454, ⟨a1457, c1458, rfl, hf1459⟩, j10_b, v14_, hS1451⟩
              · refine stepN2 (a := 0) (b := 1) rfl rfl rfl ?_ ?_
                · intro r_ w1464 h1465 hl1466 hJ_ hb_ hp_
                  have hS1463 := hJ_
                  obtain ⟨b0_, b1_, b2_, b3_, b4_, _⟩ := hb_
                  refine WL.val1 (R_move (v := .slice (ns_a) (ns).length (ns_c)) b1_) ?_
                  refine WL.nil ?_
                  exact ⟨rfl, _, _, rfl, (Hp.le_refl _), rfl, hS1463⟩
                · intro r_ w1468 h1469 hl1470 hJ_ hb_ hp_
                  obtain ⟨j10_b, v14_, hS1467⟩ := hJ_
                  obtain ⟨b0_, b1_, b2_, b3_, b4_, _⟩ := hb_
                  refine WL.val1 (R_move (v := .slice (ns_a) (ns).length (ns_c)) b1_) ?_
                  refine WL.nil ?_
                  exact ⟨rfl, _, _, rfl, (Hp.le_refl _), rfl, j10_b, v14_, hS1467⟩
              · refine stepN2 (a := 0) (b := 1) rfl rfl rfl ?_ ?_
                · intro r_ w1472 h1473 hl1474 hJ_ hb_ hp_
                  have hS1471 := hJ_
                  obtain ⟨b0_, b1_, b2_, b3_, b4_, _⟩ := hb_
                  refine WL.val1 (R_move (v := .int .i64 (((k : Nat) : Int))) b2_) ?_
                  refine WL.nil ?_
                  exact ⟨rfl, _, _, rfl, (Hp.le_refl _), rfl, hS1471⟩
                · intro r_ w1476 h1477 hl1478 hJ_ hb_ hp_
                  obtain ⟨j10_b, v14_, hS1475⟩ := hJ_
                  obtain ⟨b0_, b1_, b2_, b3_, b4_, _⟩ := hb_
                  refine WL.val1 (R_move (v := .int .i64 (((k : Nat) : Int))) b2_) ?_
                  refine WL.nil ?_
                  exact ⟨rfl, _, _, rfl, (Hp.le_refl _), rfl, j10_b, v14_, hS1475⟩
              · refine stepN2 (a := 0) (b := 1) rfl rfl rfl ?_ ?_
                · intro r_ w1480 h1481 hl1482 hJ_ hb_ hp_
                  have hS1479 := hJ_
                  obtain ⟨b0_, b1_, b2_, b3_, b4_, _⟩ := hb_
                  obtain ⟨p0_, p1_, _⟩ := hp_
                  have p0_ : r_ 134 = .slice (ns_a) (ns).length (ns_c) := p0_
                  have p1_ : r_ 135 = .int .i64 (((k : Nat) : Int)) := p1_
                  refine WL.val1 (R_indexAddrE (i := ((k : Nat) : Int)) (m := k) ha1245 p0_ p1_ Tryd.underlying24 (Tryd.sizeOf9 _) (by first | rfl | (omega)) (by omega)) ?_
                  refine WL.nil ?_
                  exact ⟨rfl, _, _, rfl, (Hp.le_refl _), rfl, hS1479⟩
                · intro r_ w1484 h1485 hl1486 hJ_ hb_ hp_
                  obtain ⟨j10_b, v14_, hS1483⟩ := hJ_
                  obtain ⟨b0_, b1_, b2_, b3_, b4_, _⟩ := hb_
                  obtain ⟨p0_, p1_, _⟩ := hp_
                  have p0_ : r_ 134 = .slice (ns_a) (ns).length (ns_c) := p0_
                  have p1_ : r_ 135 = .int .i64 (((k : Nat) : Int)) := p1_
                  refine WL.val1 (R_indexAddrE (i := ((k : Nat) : Int)) (m := k) ha1245 p0_ p1_ Tryd.underlying24 (Tryd.sizeOf9 _) (by first | rfl | (omega)) (by omega)) ?_
                  refine WL.nil ?_
                  exact ⟨rfl, _, _, rfl, (Hp.le_refl _), rfl, j10_b, v14_, hS1483⟩
              · refine stepN2 (a := 0) (b := 1) rfl rfl rfl ?_ ?_
                · intro r_ w1488 h1489 hl1490 hJ_ hb_ hp_
                  have hS1487 := hJ_
                  obtain ⟨b0_, b1_, b2_, b3_, b4_, _⟩ := hb_
                  obtain ⟨p0_, _⟩ := hp_
                  have p0_ : r_ 136 = .pointer (some ⟨b1243, (o1244 + k * Rstr.n), none⟩) := p0_
                  refine WL.val1 (R_loadC (v := .string (B (z_ns_k))) hS1487 p0_ (hat1247.mono (hl1252.trans hl1490)) Tryd.isAgg9 rfl) ?_
                  refine WL.nil ?_
                  exact ⟨rfl, _, _, rfl, (Hp.le_refl _), rfl, hS1487⟩
                · intro r_ w1492 h1493 hl1494 hJ_ hb_ hp_
                  obtain ⟨j10_b, v14_, hS1491⟩ := hJ_
                  obtain ⟨b0_, b1_, b2_, b3_, b4_, _⟩ := hb_
                  obtain ⟨p0_, _⟩ := hp_
                  have p0_ : r_ 136 = .pointer (some ⟨b1243, (o1244 + k * Rstr.n), none⟩) := p0_
                  refine WL.val1 (R_loadC (v := .string (B (z_ns_k))) hS1491 p0_ (hat1247.mono (hl1252.trans hl1494)) Tryd.isAgg9 rfl) ?_
                  refine WL.nil ?_
                  exact ⟨rfl, _, _, rfl, (Hp.le_refl _), rfl, j10_b, v14_, hS1491⟩
              · refine stepN2 (a := 0) (b := 1) rfl rfl rfl ?_ ?_
                · intro r_ w1496 h1497 hl1498 hJ_ hb_ hp_
                  have hS1495 := hJ_
                  obtain ⟨b0_, b1_, b2_, b3_, b4_, _⟩ := hb_
                  obtain ⟨p0_, p1_, p2_, _⟩ := hp_
                  obtain ⟨a1499, c1500, p0_, hs1501⟩ := p0_
                  have p1_ : r_ 137 = .string (B (z_ns_k)) := p1_
                  obtain ⟨a1502, c1503, p2_, hs1504⟩ := p2_
                  refine S_callF (vs := [.slice (a1502) (((cutS l 6))).length (c1503), .string (B (z_ns_k))]) hS1495 Tryd.call17 (hmap2 p2_ p1_) (ref20_Find (((cutS l 6))) (a1502) (c1503) (z_ns_k) (by first | assumption | omega | exact hz | exact hz.take _ | exact rput_sz hz (by omega) (hz.2 _ (List.mem_of_getElem? hz_cutS_l_6_j)) | exact rput_sz (hz.take _) (by rw [List.length_take]; omega) (hz.2 _ (List.mem_of_getElem? hz_cutS_l_6_j)) | exact refPut_sz hz (by omega) (hz.2 _ (List.mem_of_getElem? hz_cutS_l_6_j)) | exact refPut_sz (hz.take _) (by rw [List.length_take]; omega) (hz.2 _ (List.mem_of_getElem? hz_cutS_l_6_j)) | exact szl_one (rfind_sz hz) | exact szl_one (refFind_sz hz) | exact SzL.len (hz) | exact SzL.seens (hz) | exact SzL.both (hz) | exact SzL.len (hz.take _) | exact SzL.seens (hz.take _) | exact SzL.both (hz.take _) | exact SzL.len (rput_sz hz (by omega) (hz.2 _ (List.mem_of_getElem? hz_cutS_l_6_j))) | exact SzL.seens (rput_sz hz (by omega) (hz.2 _ (List.mem_of_getElem? hz_cutS_l_6_j))) | exact SzL.both (rput_sz hz (by omega) (hz.2 _ (List.mem_of_getElem? hz_cutS_l_6_j))) | exact SzL.len (rput_sz (hz.take _) (by rw [List.length_take]; omega) (hz.2 _ (List.mem_of_getElem? hz_cutS_l_6_j))) | exact SzL.seens (rput_sz (hz.take _) (by rw [List.length_take]; omega) (hz.2 _ (List.mem_of_getElem? hz_cutS_l_6_j))) | exact SzL.both (rput_sz (hz.take _) (by rw [List.length_take]; omega) (hz.2 _ (List.mem_of_getElem? hz_cutS_l_6_j))) | exact SzL.len (szl_one (rfind_sz hz)) | exact SzL.seens (szl_one (rfind_sz hz)) | exact SzL.both (szl_one (rfind_sz hz)) | exact SzL.len (szl_one (refFind_sz hz)) | exact SzL.seens (szl_one (refFind_sz hz)) | exact SzL.both (szl_one (refFind_sz hz)) | exact SzR.s (hz.2 _ (List.mem_of_getElem? hz_cutS_l_6_j)) | exact SzR.f (hz.2 _ (List.mem_of_getElem? hz_cutS_l_6_j)) | (simp only [List.length_take]; omega))) hs1504 ?_
                  intro h1507 v1509 w1506 hl1508 hp1510 hS1505
                  obtain ⟨a1511, c1512, a21513, c21514, rfl, hf1515, hf1516⟩ := hp1510
                  refine WL.nil ?_
                  exact ⟨rfl, _, _, rfl, hl1508, ⟨a1511, c1512, a21513, c21514, rfl, hf1515, hf1516⟩, hS1505⟩
                · intro r_ w1524 h1525 hl1526 hJ_ hb_ hp_
                  obtain ⟨j10_b, v14_, hS1523⟩ := hJ_
                  obtain ⟨b0_, b1_, b2_, b3_, b4_, _⟩ := hb_
                  obtain ⟨p0_, p1_, p2_, _⟩ := hp_
                  obtain ⟨a1527, c1528, p0_, hs1529⟩ := p0_
                  have p1_ : r_ 137 = .string (B (z_ns_k)) := p1_
                  obtain ⟨a1530, c1531, p2_, hs1532⟩ := p2_
                  refine S_callF (vs := [.slice (a1530) (((cutS l 6))).length (c1531), .string (B (z_ns_k))]) hS1523 Tryd.call17 (hmap2 p2_ p1_) (ref20_Find (((cutS l 6))) (a1530) (c1531) (z_ns_k) (by first | assumption | omega | exact hz | exact hz.take _ | exact rput_sz hz (by omega) (hz.2 _ (List.mem_of_getElem? hz_cutS_l_6_j)) | exact rput_sz (hz.take _) (by rw [List.length_take]; omega) (hz.2 _ (List.mem_of_getElem? hz_cutS_l_6_j)) | exact refPut_sz hz (by omega) (hz.2 _ (List.mem_of_getElem? hz_cutS_l_6_j)) | exact refPut_sz (hz.take _) (by rw [List.length_take]; omega) (hz.2 _ (List.mem_of_getElem? hz_cutS_l_6_j)) | exact szl_one (rfind_sz hz) | exact szl_one (refFind_sz hz) | exact SzL.len (hz) | exact SzL.seens (hz) | exact SzL.both (hz) | exact SzL.len (hz.take _) | exact SzL.seens (hz.take _) | exact SzL.both (hz.take _) | exact SzL.len (rput_sz hz (by omega) (hz.2 _ (List.mem_of_getElem? hz_cutS_l_6_j))) | exact SzL.seens (rput_sz hz (by omega) (hz.2 _ (List.mem_of_getElem? hz_cutS_l_6_j))) | exact SzL.both (rput_sz hz (by omega) (hz.2 _ (List.mem_of_getElem? hz_cutS_l_6_j))) | exact SzL.len (rput_sz (hz.take _) (by rw [List.length_take]; omega) (hz.2 _ (List.mem_of_getElem? hz_cutS_l_6_j))) | exact SzL.seens (rput_sz (hz.take _) (by rw [List.length_take]; omega) (hz.2 _ (List.mem_of_getElem? hz_cutS_l_6_j))) | exact SzL.both (rput_sz (hz.take _) (by rw [List.length_take]; omega) (hz.2 _ (List.mem_of_getElem? hz_cutS_l_6_j))) | exact SzL.len (szl_one (rfind_sz hz)) | exact SzL.seens (szl_one (rfind_sz hz)) | exact SzL.both (szl_one (rfind_sz hz)) | exact SzL.len (szl_one (refFind_sz hz)) | exact SzL.seens (szl_one (refFind_sz hz)) | exact SzL.both (szl_one (refFind_sz hz)) | exact SzR.s (hz.2 _ (List.mem_of_getElem? hz_cutS_l_6_j)) | exact SzR.f (hz.2 _ (List.mem_of_getElem? hz_cutS_l_6_j)) | (simp only [List.length_take]; omega))) hs1532 ?_
                  intro h1535 v1537 w1534 hl1536 hp1538 hS1533
                  obtain ⟨a1539, c1540, a21541, c21542, rfl, hf1543, hf1544⟩ := hp1538
                  refine WL.nil ?_
                  exact ⟨rfl, _, _, rfl, hl1536, ⟨a1539, c1540, a21541, c21542, rfl, hf1543, hf1544⟩, j10_b, v14_, hS1533⟩
              · refine stepN2 (a := 0) (b := 1) rfl rfl rfl ?_ ?_
                · intro r_ w1552 h1553 hl1554 hJ_ hb_ hp_
                  have hS1551 := hJ_
                  obtain ⟨b0_, b1_, b2_, b3_, b4_, _⟩ := hb_
                  obtain ⟨p0_, _⟩ := hp_
                  obtain ⟨a1555, c1556, a1558, c1559, p0_, hs1557, hs1560⟩ := p0_
                  refine WL.val1 (R_move (v := .tuple #[.agg #[.string (B ((refFindF z_ns_k (((cutS l 6)))).1.name)), .slice (a1555) ((refFindF z_ns_k (((cutS l 6)))).1.seens).length (c1556), .slice (a1558) ((refFindF z_ns_k (((cutS l 6)))).1.files).length (c1559)], .bool ((refFindF z_ns_k (((cutS l 6)))).2)]) p0_) ?_
                  refine WL.nil ?_
                  exact ⟨rfl, _, _, rfl, (Hp.le_refl _), ⟨a1555, c1556, a1558, c1559, rfl, hs1557, hs1560⟩, hS1551⟩
                · intro r_ w1568 h1569 hl1570 hJ_ hb_ hp_
                  obtain ⟨j10_b, v14_, hS1567⟩ := hJ_
                  obtain ⟨b0_, b1_, b2_, b3_, b4_, _⟩ := hb_
                  obtain ⟨p0_, _⟩ := hp_
                  obtain ⟨a1571, c1572, a1574, c1575, p0_, hs1573, hs1576⟩ := p0_
                  refine WL.val1 (R_move (v := .tuple #[.agg #[.string (B ((refFindF z_ns_k (((cutS l 6)))).1.name)), .slice (a1571) ((refFindF z_ns_k (((cutS l 6)))).1.seens).length (c1572), .slice (a1574) ((refFindF z_ns_k (((cutS l 6)))).1.files).length (c1575)], .bool ((refFindF z_ns_k (((cutS l 6)))).2)]) p0_) ?_
                  refine WL.nil ?_
                  exact ⟨rfl, _, _, rfl, (Hp.le_refl _), ⟨a1571, c1572, a1574, c1575, rfl, hs1573, hs1576⟩, j10_b, v14_, hS1567⟩
              · refine stepN2 (a := 0) (b := 1) rfl rfl rfl ?_ ?_
                · intro r_ w1584 h1585 hl1586 hJ_ hb_ hp_
                  have hS1583 := hJ_
                  obtain ⟨b0_, b1_, b2_, b3_, b4_, _⟩ := hb_
                  obtain ⟨p0_, _⟩ := hp_
                  obtain ⟨a1587, c1588, a1590, c1591, p0_, hs1589, hs1592⟩ := p0_
                  refine WL.val1 (R_extract (vs := ([.agg #[.string (B ((refFindF z_ns_k (((cutS l 6)))).1.name)), .slice (a1587) ((refFindF z_ns_k (((cutS l 6)))).1.seens).length (c1588), .slice (a1590) ((refFindF z_ns_k (((cutS l 6)))).1.files).length (c1591)], .bool ((refFindF z_ns_k (((cutS l 6)))).2)] : List Value).toArray) (v := .agg #[.string (B ((refFindF z_ns_k (((cutS l 6)))).1.name)), .slice (a1587) ((refFindF z_ns_k (((cutS l 6)))).1.seens).length (c1588), .slice (a1590) ((refFindF z_ns_k (((cutS l 6)))).1.files).length (c1591)]) p0_ rfl) ?_
                  refine WL.nil ?_
                  exact ⟨rfl, _, _, rfl, (Hp.le_refl _), ⟨a1587, c1588, a1590, c1591, rfl, hs1589, hs1592⟩, hS1583⟩
                · intro r_ w1600 h1601 hl1602 hJ_ hb_ hp_
                  obtain ⟨j10_b, v14_, hS1599⟩ := hJ_
                  obtain ⟨b0_, b1_, b2_, b3_, b4_, _⟩ := hb_
                  obtain ⟨p0_, _⟩ := hp_
                  obtain ⟨a1603, c1604, a1606, c1607, p0_, hs1605, hs1608⟩ := p0_
                  refine WL.val1 (R_extract (vs := ([.agg #[.string (B ((refFindF z_ns_k (((cutS l 6)))).1.name)), .slice (a1603) ((refFindF z_ns_k (((cutS l 6)))).1.seens).length (c1604), .slice (a1606) ((refFindF z_ns_k (((cutS l 6)))).1.files).length (c1607)], .bool ((refFindF z_ns_k (((cutS l 6)))).2)] : List Value).toArray) (v := .agg #[.string (B ((refFindF z_ns_k (((cutS l 6)))).1.name)), .slice (a1603) ((refFindF z_ns_k (((cutS l 6)))).1.seens).length (c1604), .slice (a1606) ((refFindF z_ns_k (((cutS l 6)))).1.files).length (c1607)]) p0_ rfl) ?_
                  refine WL.nil ?_
                  exact ⟨rfl, _, _, rfl, (Hp.le_refl _), ⟨a1603, c1604, a1606, c1607, rfl, hs1605, hs1608⟩, j10_b, v14_, hS1599⟩
              · refine stepN3 (a := 0) (b := 1) (c := 2) rfl rfl rfl rfl ?_ ?_ ?_
                · intro r_ w1616 h1617 hl1618 hJ_ hb_ hp_
                  have hS1615 := hJ_
                  obtain ⟨b0_, b1_, b2_, b3_, b4_, _⟩ := hb_
                  obtain ⟨p0_, _⟩ := hp_
                  obtain ⟨a1619, c1620, a1622, c1623, p0_, hs1621, hs1624⟩ := p0_
                  refine WL.val1 (R_extract (vs := ([.agg #[.string (B ((refFindF z_ns_k (((cutS l 6)))).1.name)), .slice (a1619) ((refFindF z_ns_k (((cutS l 6)))).1.seens).length (c1620), .slice (a1622) ((refFindF z_ns_k (((cutS l 6)))).1.files).length (c1623)], .bool ((refFindF z_ns_k (((cutS l 6)))).2)] : List Value).toArray) (v := .bool ((refFindF z_ns_k (((cutS l 6)))).2)) p0_ rfl) ?_
                  refine WL.nil ?_
                  exact ⟨rfl, _, _, rfl, (Hp.le_refl _), rfl, hS1615⟩
                · intro r_ w1626 h1627 hl1628 hJ_ hb_ hp_
                  obtain ⟨j10_b, v14_, hS1625⟩ := hJ_
                  obtain ⟨b0_, b1_, b2_, b3_, b4_, _⟩ := hb_
                  obtain ⟨p0_, _⟩ := hp_
                  obtain ⟨a1629, c1630, a1632, c1633, p0_, hs1631, hs1634⟩ := p0_
                  refine WL.val1 (R_extract (vs := ([.agg #[.string (B ((refFindF z_ns_k (((cutS l 6)))).1.name)), .slice (a1629) ((refFindF z_ns_k (((cutS l 6)))).1.seens).length (c1630), .slice (a1632) ((refFindF z_ns_k (((cutS l 6)))).1.files).length (c1633)], .bool ((refFindF z_ns_k (((cutS l 6)))).2)] : List Value).toArray) (v := .bool ((refFindF z_ns_k (((cutS l 6)))).2)) p0_ rfl) ?_
                  refine WL.nil ?_
                  exact ⟨rfl, _, _, rfl, (Hp.le_refl _), rfl, j10_b, v14_, hS1625⟩
                · intro r_ w1636 h1637 hl1638 hJ_ hb_ hp_
                  obtain ⟨j10_b, j11_a1, j11_c1, j11_a2, j11_c2, v14_, hs1639, hs1640, hS1635⟩ := hJ_
                  obtain ⟨b0_, b1_, b2_, b3_, b4_, _⟩ := hb_
                  obtain ⟨p0_, _⟩ := hp_
                  obtain ⟨a1641, c1642, a1644, c1645, p0_, hs1643, hs1646⟩ := p0_
                  refine WL.val1 (R_extract (vs := ([.agg #[.string (B ((refFindF z_ns_k (((cutS l 6)))).1.name)), .slice (a1641) ((refFindF z_ns_k (((cutS l 6)))).1.seens).length (c1642), .slice (a1644) ((refFindF z_ns_k (((cutS l 6)))).1.files).length (c1645)], .bool ((refFindF z_ns_k (((cutS l 6)))).2)] : List Value).toArray) (v := .bool ((refFindF z_ns_k (((cutS l 6)))).2)) p0_ rfl) ?_
                  refine WL.nil ?_
                  exact ⟨rfl, _, _, rfl, (Hp.le_refl _), rfl, j10_b, j11_a1, j11_c1, j11_a2, j11_c2, v14_, hs1639, hs1640, hS1635⟩
              · refine stepN1 (a := 0) (b := 1) rfl rfl ?_
                · intro r_ w1648 h1649 hl1650 hJ_ hb_ hp_
                  have hS1647 := hJ_
                  obtain ⟨b0_, b1_, b2_, b3_, b4_, _⟩ := hb_
                  refine S_alloc hS1647 Tryd.zeroValue38 ?_
                  intro w1652 hS1651
                  refine WL.nil ?_
                  exact ⟨rfl, _, _, rfl, (Hp.le_refl _), trivial, w1648.heap.size, rfl, hS1651⟩
              · refine stepN1 (a := 1) (b := 2) rfl rfl ?_
                · intro r_ w1654 h1655 hl1656 hJ_ hb_ hp_
                  obtain ⟨j10_b, v14_, hS1653⟩ := hJ_
                  obtain ⟨b0_, b1_, b2_, b3_, b4_, _⟩ := hb_
                  obtain ⟨_, p1_, p2_, p3_, p4_, p5_, p6_, p7_, p8_, p9_, p10_, p11_, _, _⟩ := hp_
                  obtain ⟨a1657, c1658, a1660, c1661, p1_, hs1659, hs1662⟩ := p1_
                  obtain ⟨a1663, c1664, a1666, c1667, p2_, hs1665, hs1668⟩ := p2_
                  have p3_ : r_ 132 = .slice (a7) ((cutS l 6)).length (c8) := p3_
                  obtain ⟨a1669, c1670, p4_, hs1671⟩ := p4_
                  have p5_ : r_ 134 = .slice (ns_a) (ns).length (ns_c) := p5_
                  have p6_ : r_ 135 = .int .i64 (((k : Nat) : Int)) := p6_
                  have p7_ : r_ 136 = .pointer (some ⟨b1243, (o1244 + k * Rstr.n), none⟩) := p7_
                  have p8_ : r_ 137 = .string (B (z_ns_k)) := p8_
                  obtain ⟨a1672, c1673, a1675, c1676, p9_, hs1674, hs1677⟩ := p9_
                  obtain ⟨a1678, c1679, a1681, c1682, p10_, hs1680, hs1683⟩ := p10_
                  obtain ⟨a1684, c1685, a1687, c1688, p11_, hs1686, hs1689⟩ := p11_
                  refine S_store (i := 0) (b := j10_b) (l := [.string (B (([] : Str))), .slice none 0 0, .slice none 0 0]) (l' := [.string (B ((refFindF z_ns_k (((cutS l 6)))).1.name)), .slice (a1684) ((refFindF z_ns_k (((cutS l 6)))).1.seens).length (c1685), .slice (a1687) ((refFindF z_ns_k (((cutS l 6)))).1.files).length (c1688)]) (vs := [.string (B ((refFindF z_ns_k (((cutS l 6)))).1.name)), .slice (a1684) ((refFindF z_ns_k (((cutS l 6)))).1.seens).length (c1685), .slice (a1687) ((refFindF z_ns_k (((cutS l 6)))).1.files).length (c1688)]) (v := .agg #[.string (B ((refFindF z_ns_k (((cutS l 6)))).1.name)), .slice (a1684) ((refFindF z_ns_k (((cutS l 6)))).1.seens).length (c1685), .slice (a1687) ((refFindF z_ns_k (((cutS l 6)))).1.files).length (c1688)]) hS1653 v14_ p11_ rfl Tryd.sizeOf38 rfl rfl rfl (Nat.le_of_ble_eq_true rfl) rfl rfl ?_
                  intro w1691 hS1690
                  refine WL.nil ?_
                  exact ⟨rfl, undef, _, rfl, (Hp.le_refl _), trivial, j10_b, a1684, c1685, a1687, c1688, v14_, hs1686, hs1689, hS1690⟩
              · intro r_ w1693 h1694 hl1695 hJ_ hb_ hf_
                obtain ⟨j1696, j1697, j1698, j1699, j1700, v14_, hs1701, hs1702, hS1692⟩ := hJ_
                obtain ⟨b0_, b1_, b2_, b3_, b4_, _⟩ := hb_
                obtain ⟨q0_, q1_, q2_, q3_, q4_, q5_, q6_, q7_, q8_, q9_, q10_, q11_, _⟩ := hf_
                obtain ⟨a1703, c1704, q1_, hs1705⟩ := q1_
                obtain ⟨a1706, c1707, a1709, c1710, q6_, hs1708, hs1711⟩ := q6_
                obtain ⟨a1712, c1713, a1715, c1716, q7_, hs1714, hs1717⟩ := q7_
                obtain ⟨a1718, c1719, a1721, c1722, q8_, hs1720, hs1723⟩ := q8_
                refine WL.frame [(0, .slice (a7) ((cutS l 6)).length (c8)), (8, .slice (ns_a) (ns).length (ns_c)), (11, .int .i64 (((k : Nat) : Int))), (12, .pointer (some ⟨w1250.heap.size, 0, none⟩)), (13, .bool ((rfindS ((cutS l 6)) z_ns_k).2)), (14, .pointer (some ⟨j1696, 0, none⟩)), (132, .slice (a7) ((cutS l 6)).length (c8)), (133, .slice (a1703) (((cutS l 6))).length (c1704)), (134, .slice (ns_a) (ns).length (ns_c)), (135, .int .i64 (((k : Nat) : Int))), (136, .pointer (some ⟨b1243, (o1244 + k * Rstr.n), none⟩)), (137, .string (B (z_ns_k))), (138, .tuple #[.agg #[.string (B ((refFindF z_ns_k (((cutS l 6)))).1.name)), .slice (a1706) ((refFindF z_ns_k (((cutS l 6)))).1.seens).length (c1707), .slice (a1709) ((refFindF z_ns_k (((cutS l 6)))).1.files).length (c1710)], .bool ((refFindF z_ns_k (((cutS l 6)))).2)]), (131, .tuple #[.agg #[.string (B ((refFindF z_ns_k (((cutS l 6)))).1.name)), .slice (a1712) ((refFindF z_ns_k (((cutS l 6)))).1.seens).length (c1713), .slice (a1715) ((refFindF z_ns_k (((cutS l 6)))).1.files).length (c1716)], .bool ((refFindF z_ns_k (((cutS l 6)))).2)]), (139, .agg #[.string (B ((refFindF z_ns_k (((cutS l 6)))).1.name)), .slice (a1718) ((refFindF z_ns_k (((cutS l 6)))).1.seens).length (c1719), .slice (a1721) ((refFindF z_ns_k (((cutS l 6)))).1.files).length (c1722)]), (140, .bool ((refFindF z_ns_k (((cutS l 6)))).2))] ⟨b0_, b1_, b2_, b3_, b4_, v14_, q0_, q1_, q2_, q3_, q4_, q5_, q6_, q7_, q8_, q9_, trivial⟩ (fun r_ => ?_)
                refine WL.val1 (R_assign (v := .bool ((refFindF z_ns_k (((cutS l 6)))).2)) rfl) ?_
                refine WL.nil ?_
                refine then_normal ?_
                refine WC.seq ?_
                refine WC.draw 9 [(0, .slice (a7) ((cutS l 6)).length (c8)), (8, .slice (ns_a) (ns).length (ns_c)), (11, .int .i64 (((k : Nat) : Int))), (12, .pointer (some ⟨w1250.heap.size, 0, none⟩)), (13, .bool ((rfindS ((cutS l 6)) z_ns_k).2)), (14, .pointer (some ⟨j1696, 0, none⟩)), (15, .bool ((refFindF z_ns_k (((cutS l 6)))).2))] [fun _ v => v = .bool ((rfindS ((cutS l 6)) z_ns_k).2), fun _ v => v = .bool ((refFindF z_ns_k (((cutS l 6)))).2), fun _ v => v = .bool (false), fun _ v => v = .bool (false), fun _ v => v = .agg #[.string (B ((rfindS ((cutS l 6)) z_ns_k).1.name)), .slice (a1255) ((rfindS ((cutS l 6)) z_ns_k).1.seens).length (c1256), .slice (a21257) ((rfindS ((cutS l 6)) z_ns_k).1.files).length (c21258)], fun h v => ∃ (b0_ : Nat), v = .slice (some ⟨b0_, 0, none⟩) 1 (1) ∧ Sl RRec h ([{ name := (rfindS ((cutS l 6)) z_ns_k).1.name, seens := (rfindS ((cutS l 6)) z_ns_k).1.seens, files := (rfindS ((cutS l 6)) z_ns_k).1.files : Rec }]) (some ⟨b0_, 0, none⟩) (1), fun h v => ∃ (a0_ : Option Addr) (c0_ : Nat), v = .slice (a0_) (([{ name := (rfindS ((cutS l 6)) z_ns_k).1.name, seens := (rfindS ((cutS l 6)) z_ns_k).1.seens, files := (rfindS ((cutS l 6)) z_ns_k).1.files : Rec }])).length (c0_) ∧ Sl RRec2 h (([{ name := (rfindS ((cutS l 6)) z_ns_k).1.name, seens := (rfindS ((cutS l 6)) z_ns_k).1.seens, files := (rfindS ((cutS l 6)) z_ns_k).1.files : Rec }])) (a0_) (c0_), fun _ v => v = .agg #[.string (B ((refFindF z_ns_k (((cutS l 6)))).1.name)), .slice (j1697) ((refFindF z_ns_k (((cutS l 6)))).1.seens).length (j1698), .slice (j1699) ((refFindF z_ns_k (((cutS l 6)))).1.files).length (j1700)], fun h v => ∃ (b0_ : Nat), v = .slice (some ⟨b0_, 0, none⟩) 1 (1) ∧ Sl RRec2 h ([{ name := (refFindF z_ns_k (((cutS l 6)))).1.name, seens := (refFindF z_ns_k (((cutS l 6)))).1.seens, files := (refFindF z_ns_k (((cutS l 6)))).1.files : Rec }]) (some ⟨b0_, 0, none⟩) (1)] hS1692 (by kernel_rfl) (by kernel_rfl) (MonoFs.pure (MonoFs.pure (MonoFs.pure (MonoFs.pure (MonoFs.pure (MonoFs.cons (fun _ _ _ hl ⟨x0, e, y0⟩ => ⟨x0, e, y0.mono hl⟩) (MonoFs.cons (fun _ _ _ hl ⟨x0, x1, e, y0⟩ => ⟨x0, x1, e, y0.mono hl⟩) (MonoFs.pure (MonoFs.cons (fun _ _ _ hl ⟨x0, e, y0⟩ => ⟨x0, e, y0.mono hl⟩) MonoFs.nil))))))))) ⟨rfl, rfl, rfl, rfl, rfl, rfl, rfl, trivial⟩ ⟨?_, ?_, ?_, ?_, ?_, ?_, ?_, ?_, ?_, trivial⟩ ?_
                · intro r_ w1794 h1795 hl1796 hS1793 hb_ hp_
                  obtain ⟨b0_, b1_, b2_, b3_, b4_, b5_, b6_, _⟩ := hb_
                  refine WL.val1 (R_move (v := .bool ((rfindS ((cutS l 6)) z_ns_k).2)) b4_) ?_
                  refine WL.nil ?_
                  exact ⟨rfl, _, _, rfl, (Hp.le_refl _), rfl, hS1793⟩
                · intro r_ w1798 h1799 hl1800 hS1797 hb_ hp_
                  obtain ⟨b0_, b1_, b2_, b3_, b4_, b5_, b6_, _⟩ := hb_
                  refine WL.val1 (R_move (v := .bool ((refFindF z_ns_k (((cutS l 6)))).2)) b6_) ?_
                  refine WL.nil ?_
                  exact ⟨rfl, _, _, rfl, (Hp.le_refl _), rfl, hS1797⟩
                · intro r_ w1802 h1803 hl1804 hS1801 hb_ hp_
                  obtain ⟨b0_, b1_, b2_, b3_, b4_, b5_, b6_, _⟩ := hb_
                  obtain ⟨p0_, p1_, _⟩ := hp_
                  have p0_ : r_ 141 = .bool ((rfindS ((cutS l 6)) z_ns_k).2) := p0_
                  have p1_ : r_ 142 = .bool ((refFindF z_ns_k (((cutS l 6)))).2) := p1_
                  refine WL.val1 (R_cast (R_bneq (a := (rfindS ((cutS l 6)) z_ns_k).2) (b := (refFindF z_ns_k (((cutS l 6)))).2) p0_ p1_ Tryd.underlying4) (bool_false (by rw [rfind_eq]; simp))) ?_
                  refine WL.nil ?_
                  exact ⟨rfl, _, _, rfl, (Hp.le_refl _), rfl, hS1801⟩
                · intro r_ w1806 h1807 hl1808 hS1805 hb_ hp_
                  obtain ⟨b0_, b1_, b2_, b3_, b4_, b5_, b6_, _⟩ := hb_
                  obtain ⟨p0_, _⟩ := hp_
                  have p0_ : r_ 143 = .bool (false) := p0_
                  refine WL.val1 (R_move (v := .bool (false)) p0_) ?_
                  refine WL.nil ?_
                  exact ⟨rfl, _, _, rfl, (Hp.le_refl _), rfl, hS1805⟩
                · intro r_ w1810 h1811 hl1812 hS1809 hb_ hp_
                  obtain ⟨b0_, b1_, b2_, b3_, b4_, b5_, b6_, _⟩ := hb_
                  obtain ⟨p0_, _⟩ := hp_
                  have p0_ : r_ 144 = .bool (false) := p0_
                  refine WL_unguard (yl_eq (d := 144) rfl p0_) ?_
                  refine WL.val1 (R_loadA (cs := [.string (B ((rfindS ((cutS l 6)) z_ns_k).1.name)), .slice (a1255) ((rfindS ((cutS l 6)) z_ns_k).1.seens).length (c1256), .slice (a21257) ((rfindS ((cutS l 6)) z_ns_k).1.files).length (c21258)]) b3_ (hS1809.has (i := 1) rfl) (Tryd.isAgg35 _) (Tryd.sizeOf35 _) rfl (sub_cells rfl)) ?_
                  refine WL.nil ?_
                  exact ⟨rfl, _, _, rfl, (Hp.le_refl _), rfl, hS1809⟩
                · intro r_ w1814 h1815 hl1816 hS1813 hb_ hp_
                  obtain ⟨b0_, b1_, b2_, b3_, b4_, b5_, b6_, _⟩ := hb_
                  obtain ⟨p0_, p1_, _⟩ := hp_
                  have p0_ : r_ 145 = .agg #[.string (B ((rfindS ((cutS l 6)) z_ns_k).1.name)), .slice (a1255) ((rfindS ((cutS l 6)) z_ns_k).1.seens).length (c1256), .slice (a21257) ((rfindS ((cutS l 6)) z_ns_k).1.files).length (c21258)] := p0_
                  have p1_ : r_ 144 = .bool (false) := p1_
                  refine WL_unguard (yl_eq (d := 144) rfl p1_) ?_
                  refine S_buildSliceC (R := RRec) (m := 1) (vs := [(0, .agg #[.string (B ((rfindS ((cutS l 6)) z_ns_k).1.name)), .slice (a1255) ((rfindS ((cutS l 6)) z_ns_k).1.seens).length (c1256), .slice (a21257) ((rfindS ((cutS l 6)) z_ns_k).1.files).length (c21258)])]) (cells := [.string (B ((rfindS ((cutS l 6)) z_ns_k).1.name)), .slice (a1255) ((rfindS ((cutS l 6)) z_ns_k).1.seens).length (c1256), .slice (a21257) ((rfindS ((cutS l 6)) z_ns_k).1.files).length (c21258)]) (xs := [{ name := (rfindS ((cutS l 6)) z_ns_k).1.name, seens := (rfindS ((cutS l 6)) z_ns_k).1.seens, files := (rfindS ((cutS l 6)) z_ns_k).1.files : Rec }]) hS1813 Tryd.underlying22 Tryd.sizeOf35 Tryd.zeroValue35 (by decide) (by decide) (pmap1 (v := .agg #[.string (B ((rfindS ((cutS l 6)) z_ns_k).1.name)), .slice (a1255) ((rfindS ((cutS l 6)) z_ns_k).1.seens).length (c1256), .slice (a21257) ((rfindS ((cutS l 6)) z_ns_k).1.files).length (c21258)]) p0_) (by kernel_rfl) (by exact (⟨[.string (B ((rfindS ((cutS l 6)) z_ns_k).1.name)), .slice (a1255) ((rfindS ((cutS l 6)) z_ns_k).1.seens).length (c1256), .slice (a21257) ((rfindS ((cutS l 6)) z_ns_k).1.files).length (c21258)], _, rfl, ⟨a1255, c1256, a21257, c21258, rfl, (hf1259.mono (hl1695.trans hl1816)), (hf1260.mono (hl1695.trans hl1816))⟩, rfl⟩ : Flat RRec _ [{ name := (rfindS ((cutS l 6)) z_ns_k).1.name, seens := (rfindS ((cutS l 6)) z_ns_k).1.seens, files := (rfindS ((cutS l 6)) z_ns_k).1.files : Rec }] _)) rfl ?_
                  intro h1819 b1821 w1818 hl1820 hs1822 hS1817
                  refine WL.nil ?_
                  exact ⟨rfl, _, _, rfl, hl1820, ⟨b1821, rfl, hs1822⟩, hS1817⟩
                · intro r_ w1826 h1827 hl1828 hS1825 hb_ hp_
                  obtain ⟨b0_, b1_, b2_, b3_, b4_, b5_, b6_, _⟩ := hb_
                  obtain ⟨p0_, p1_, p2_, _⟩ := hp_
                  obtain ⟨b1829, p0_, hs1830⟩ := p0_
                  have p1_ : r_ 144 = .bool (false) := p1_
                  have p2_ : r_ 144 = .bool (false) := p2_
                  refine WL_unguard (yl_eq (d := 144) rfl p2_) ?_
                  refine S_callF (vs := [.slice (some ⟨b1829, 0, none⟩) 1 (1)]) hS1825 Tryd.call12 (hmap1 p0_) (law_Refs ([{ name := (rfindS ((cutS l 6)) z_ns_k).1.name, seens := (rfindS ((cutS l 6)) z_ns_k).1.seens, files := (rfindS ((cutS l 6)) z_ns_k).1.files : Rec }]) (some ⟨b1829, 0, none⟩) (1) (by first | assumption | omega | exact hz | exact hz.take _ | exact rput_sz hz (by omega) (hz.2 _ (List.mem_of_getElem? hz_cutS_l_6_j)) | exact rput_sz (hz.take _) (by rw [List.length_take]; omega) (hz.2 _ (List.mem_of_getElem? hz_cutS_l_6_j)) | exact refPut_sz hz (by omega) (hz.2 _ (List.mem_of_getElem? hz_cutS_l_6_j)) | exact refPut_sz (hz.take _) (by rw [List.length_take]; omega) (hz.2 _ (List.mem_of_getElem? hz_cutS_l_6_j)) | exact szl_one (rfind_sz hz) | exact szl_one (refFind_sz hz) | exact SzL.len (hz) | exact SzL.seens (hz) | exact SzL.both (hz) | exact SzL.len (hz.take _) | exact SzL.seens (hz.take _) | exact SzL.both (hz.take _) | exact SzL.len (rput_sz hz (by omega) (hz.2 _ (List.mem_of_getElem? hz_cutS_l_6_j))) | exact SzL.seens (rput_sz hz (by omega) (hz.2 _ (List.mem_of_getElem? hz_cutS_l_6_j))) | exact SzL.both (rput_sz hz (by omega) (hz.2 _ (List.mem_of_getElem? hz_cutS_l_6_j))) | exact SzL.len (rput_sz (hz.take _) (by rw [List.length_take]; omega) (hz.2 _ (List.mem_of_getElem? hz_cutS_l_6_j))) | exact SzL.seens (rput_sz (hz.take _) (by rw [List.length_take]; omega) (hz.2 _ (List.mem_of_getElem? hz_cutS_l_6_j))) | exact SzL.both (rput_sz (hz.take _) (by rw [List.length_take]; omega) (hz.2 _ (List.mem_of_getElem? hz_cutS_l_6_j))) | exact SzL.len (szl_one (rfind_sz hz)) | exact SzL.seens (szl_one (rfind_sz hz)) | exact SzL.both (szl_one (rfind_sz hz)) | exact SzL.len (szl_one (refFind_sz hz)) | exact SzL.seens (szl_one (refFind_sz hz)) | exact SzL.both (szl_one (refFind_sz hz)) | exact SzR.s (hz.2 _ (List.mem_of_getElem? hz_cutS_l_6_j)) | exact SzR.f (hz.2 _ (List.mem_of_getElem? hz_cutS_l_6_j)) | (simp only [List.length_take]; omega)) (by first | assumption | omega | exact hz | exact hz.take _ | exact rput_sz hz (by omega) (hz.2 _ (List.mem_of_getElem? hz_cutS_l_6_j)) | exact rput_sz (hz.take _) (by rw [List.length_take]; omega) (hz.2 _ (List.mem_of_getElem? hz_cutS_l_6_j)) | exact refPut_sz hz (by omega) (hz.2 _ (List.mem_of_getElem? hz_cutS_l_6_j)) | exact refPut_sz (hz.take _) (by rw [List.length_take]; omega) (hz.2 _ (List.mem_of_getElem? hz_cutS_l_6_j)) | exact szl_one (rfind_sz hz) | exact szl_one (refFind_sz hz) | exact SzL.len (hz) | exact SzL.seens (hz) | exact SzL.both (hz) | exact SzL.len (hz.take _) | exact SzL.seens (hz.take _) | exact SzL.both (hz.take _) | exact SzL.len (rput_sz hz (by omega) (hz.2 _ (List.mem_of_getElem? hz_cutS_l_6_j))) | exact SzL.seens (rput_sz hz (by omega) (hz.2 _ (List.mem_of_getElem? hz_cutS_l_6_j))) | exact SzL.both (rput_sz hz (by omega) (hz.2 _ (List.mem_of_getElem? hz_cutS_l_6_j))) | exact SzL.len (rput_sz (hz.take _) (by rw [List.length_take]; omega) (hz.2 _ (List.mem_of_getElem? hz_cutS_l_6_j))) | exact SzL.seens (rput_sz (hz.take _) (by rw [List.length_take]; omega) (hz.2 _ (List.mem_of_getElem? hz_cutS_l_6_j))) | exact SzL.both (rput_sz (hz.take _) (by rw [List.length_take]; omega) (hz.2 _ (List.mem_of_getElem? hz_cutS_l_6_j))) | exact SzL.len (szl_one (rfind_sz hz)) | exact SzL.seens (szl_one (rfind_sz hz)) | exact SzL.both (szl_one (rfind_sz hz)) | exact SzL.len (szl_one (refFind_sz hz)) | exact SzL.seens (szl_one (refFind_sz hz)) | exact SzL.both (szl_one (refFind_sz hz)) | exact SzR.s (hz.2 _ (List.mem_of_getElem? hz_cutS_l_6_j)) | exact SzR.f (hz.2 _ (List.mem_of_getElem? hz_cutS_l_6_j)) | (simp only [List.length_take]; omega))) hs1830 ?_
                  intro h1833 v1835 w1832 hl1834 hp1836 hS1831
                  obtain ⟨a1837, c1838, rfl, hf1839⟩ := hp1836
                  refine WL.nil ?_
                  exact ⟨rfl, _, _, rfl, hl1834, ⟨a1837, c1838, rfl, hf1839⟩, hS1831⟩
                · intro r_ w1844 h1845 hl1846 hS1843 hb_ hp_
                  obtain ⟨b0_, b1_, b2_, b3_, b4_, b5_, b6_, _⟩ := hb_
                  obtain ⟨p0_, _⟩ := hp_
                  have p0_ : r_ 144 = .bool (false) := p0_
                  refine WL_unguard (yl_eq (d := 144) rfl p0_) ?_
                  refine WL.val1 (R_loadA (cs := [.string (B ((refFindF z_ns_k (((cutS l 6)))).1.name)), .slice (j1697) ((refFindF z_ns_k (((cutS l 6)))).1.seens).length (j1698), .slice (j1699) ((refFindF z_ns_k (((cutS l 6)))).1.files).length (j1700)]) b5_ (hS1843.has (i := 0) rfl) (Tryd.isAgg38 _) (Tryd.sizeOf38 _) rfl (sub_cells rfl)) ?_
                  refine WL.nil ?_
                  exact ⟨rfl, _, _, rfl, (Hp.le_refl _), rfl, hS1843⟩
                · intro r_ w1848 h1849 hl1850 hS1847 hb_ hp_
                  obtain ⟨b0_, b1_, b2_, b3_, b4_, b5_, b6_, _⟩ := hb_
                  obtain ⟨p0_, p1_, _⟩ := hp_
                  have p0_ : r_ 148 = .agg #[.string (B ((refFindF z_ns_k (((cutS l 6)))).1.name)), .slice (j1697) ((refFindF z_ns_k (((cutS l 6)))).1.seens).length (j1698), .slice (j1699) ((refFindF z_ns_k (((cutS l 6)))).1.files).length (j1700)] := p0_
                  have p1_ : r_ 144 = .bool (false) := p1_
                  refine WL_unguard (yl_eq (d := 144) rfl p1_) ?_
                  refine S_buildSliceC (R := RRec2) (m := 1) (vs := [(0, .agg #[.string (B ((refFindF z_ns_k (((cutS l 6)))).1.name)), .slice (j1697) ((refFindF z_ns_k (((cutS l 6)))).1.seens).length (j1698), .slice (j1699) ((refFindF z_ns_k (((cutS l 6)))).1.files).length (j1700)])]) (cells := [.string (B ((refFindF z_ns_k (((cutS l 6)))).1.name)), .slice (j1697) ((refFindF z_ns_k (((cutS l 6)))).1.seens).length (j1698), .slice (j1699) ((refFindF z_ns_k (((cutS l 6)))).1.files).length (j1700)]) (xs := [{ name := (refFindF z_ns_k (((cutS l 6)))).1.name, seens := (refFindF z_ns_k (((cutS l 6)))).1.seens, files := (refFindF z_ns_k (((cutS l 6)))).1.files : Rec }]) hS1847 Tryd.underlying39 Tryd.sizeOf38 Tryd.zeroValue38 (by decide) (by decide) (pmap1 (v := .agg #[.string (B ((refFindF z_ns_k (((cutS l 6)))).1.name)), .slice (j1697) ((refFindF z_ns_k (((cutS l 6)))).1.seens).length (j1698), .slice (j1699) ((refFindF z_ns_k (((cutS l 6)))).1.files).length (j1700)]) p0_) (by kernel_rfl) (by exact (⟨[.string (B ((refFindF z_ns_k (((cutS l 6)))).1.name)), .slice (j1697) ((refFindF z_ns_k (((cutS l 6)))).1.seens).length (j1698), .slice (j1699) ((refFindF z_ns_k (((cutS l 6)))).1.files).length (j1700)], _, rfl, ⟨j1697, j1698, j1699, j1700, rfl, (hs1701.mono hl1850), (hs1702.mono hl1850)⟩, rfl⟩ : Flat RRec2 _ [{ name := (refFindF z_ns_k (((cutS l 6)))).1.name, seens := (refFindF z_ns_k (((cutS l 6)))).1.seens, files := (refFindF z_ns_k (((cutS l 6)))).1.files : Rec }] _)) rfl ?_
                  intro h1853 b1855 w1852 hl1854 hs1856 hS1851
                  refine WL.nil ?_
                  exact ⟨rfl, _, _, rfl, hl1854, ⟨b1855, rfl, hs1856⟩, hS1851⟩
                · intro r_ w1860 h1861 hl1862 hS1859 hb_ hf_
                  obtain ⟨b0_, b1_, b2_, b3_, b4_, b5_, b6_, _⟩ := hb_
                  obtain ⟨q0_, q1_, q2_, q3_, q4_, q5_, q6_, q7_, q8_, _⟩ := hf_
                  obtain ⟨b1863, q5_, hs1864⟩ := q5_
                  obtain ⟨a1865, c1866, q6_, hs1867⟩ := q6_
                  obtain ⟨b1868, q8_, hs1869⟩ := q8_
                  refine WL.frame [(0, .slice (a7) ((cutS l 6)).length (c8)), (8, .slice (ns_a) (ns).length (ns_c)), (11, .int .i64 (((k : Nat) : Int))), (12, .pointer (some ⟨w1250.heap.size, 0, none⟩)), (13, .bool ((rfindS ((cutS l 6)) z_ns_k).2)), (14, .pointer (some ⟨j1696, 0, none⟩)), (15, .bool ((refFindF z_ns_k (((cutS l 6)))).2)), (141, .bool ((rfindS ((cutS l 6)) z_ns_k).2)), (142, .bool ((refFindF z_ns_k (((cutS l 6)))).2)), (143, .bool (false)), (144, .bool (false)), (145, .agg #[.string (B ((rfindS ((cutS l 6)) z_ns_k).1.name)), .slice (a1255) ((rfindS ((cutS l 6)) z_ns_k).1.seens).length (c1256), .slice (a21257) ((rfindS ((cutS l 6)) z_ns_k).1.files).length (c21258)]), (146, .slice (some ⟨b1863, 0, none⟩) 1 (1)), (147, .slice (a1865) (([{ name := (rfindS ((cutS l 6)) z_ns_k).1.name, seens := (rfindS ((cutS l 6)) z_ns_k).1.seens, files := (rfindS ((cutS l 6)) z_ns_k).1.files : Rec }])).length (c1866)), (148, .agg #[.string (B ((refFindF z_ns_k (((cutS l 6)))).1.name)), .slice (j1697) ((refFindF z_ns_k (((cutS l 6)))).1.seens).length (j1698), .slice (j1699) ((refFindF z_ns_k (((cutS l 6)))).1.files).length (j1700)]), (149, .slice (some ⟨b1868, 0, none⟩) 1 (1))] ⟨b0_, b1_, b2_, b3_, b4_, b5_, b6_, q0_, q1_, q2_, q3_, q4_, q5_, q6_, q7_, q8_, trivial⟩ (fun r_ => ?_)
                  refine WL_unguard (yl_eq (d := 144) rfl rfl) ?_
                  refine S_callP (vs := [.slice (a1865) (([{ name := (rfindS ((cutS l 6)) z_ns_k).1.name, seens := (rfindS ((cutS l 6)) z_ns_k).1.seens, files := (rfindS ((cutS l 6)) z_ns_k).1.files : Rec }])).length (c1866), .slice (some ⟨b1868, 0, none⟩) 1 (1)]) hS1859 Tryd.call13 rfl (ref20_Same (([{ name := (rfindS ((cutS l 6)) z_ns_k).1.name, seens := (rfindS ((cutS l 6)) z_ns_k).1.seens, files := (rfindS ((cutS l 6)) z_ns_k).1.files : Rec }])) (a1865) (c1866) ([{ name := (refFindF z_ns_k (((cutS l 6)))).1.name, seens := (refFindF z_ns_k (((cutS l 6)))).1.seens, files := (refFindF z_ns_k (((cutS l 6)))).1.files : Rec }]) (some ⟨b1868, 0, none⟩) (1) (by first | assumption | omega | exact hz | exact hz.take _ | exact rput_sz hz (by omega) (hz.2 _ (List.mem_of_getElem? hz_cutS_l_6_j)) | exact rput_sz (hz.take _) (by rw [List.length_take]; omega) (hz.2 _ (List.mem_of_getElem? hz_cutS_l_6_j)) | exact refPut_sz hz (by omega) (hz.2 _ (List.mem_of_getElem? hz_cutS_l_6_j)) | exact refPut_sz (hz.take _) (by rw [List.length_take]; omega) (hz.2 _ (List.mem_of_getElem? hz_cutS_l_6_j)) | exact szl_one (rfind_sz hz) | exact szl_one (refFind_sz hz) | exact SzL.len (hz) | exact SzL.seens (hz) | exact SzL.both (hz) | exact SzL.len (hz.take _) | exact SzL.seens (hz.take _) | exact SzL.both (hz.take _) | exact SzL.len (rput_sz hz (by omega) (hz.2 _ (List.mem_of_getElem? hz_cutS_l_6_j))) | exact SzL.seens (rput_sz hz (by omega) (hz.2 _ (List.mem_of_getElem? hz_cutS_l_6_j))) | exact SzL.both (rput_sz hz (by omega) (hz.2 _ (List.mem_of_getElem? hz_cutS_l_6_j))) | exact SzL.len (rput_sz (hz.take _) (by rw [List.length_take]; omega) (hz.2 _ (List.mem_of_getElem? hz_cutS_l_6_j))) | exact SzL.seens (rput_sz (hz.take _) (by rw [List.length_take]; omega) (hz.2 _ (List.mem_of_getElem? hz_cutS_l_6_j))) | exact SzL.both (rput_sz (hz.take _) (by rw [List.length_take]; omega) (hz.2 _ (List.mem_of_getElem? hz_cutS_l_6_j))) | exact SzL.len (szl_one (rfind_sz hz)) | exact SzL.seens (szl_one (rfind_sz hz)) | exact SzL.both (szl_one (rfind_sz hz)) | exact SzL.len (szl_one (refFind_sz hz)) | exact SzL.seens (szl_one (refFind_sz hz)) | exact SzL.both (szl_one (refFind_sz hz)) | exact SzR.s (hz.2 _ (List.mem_of_getElem? hz_cutS_l_6_j)) | exact SzR.f (hz.2 _ (List.mem_of_getElem? hz_cutS_l_6_j)) | (simp only [List.length_take]; omega)) (by first | assumption | omega | exact hz | exact hz.take _ | exact rput_sz hz (by omega) (hz.2 _ (List.mem_of_getElem? hz_cutS_l_6_j)) | exact rput_sz (hz.take _) (by rw [List.length_take]; omega) (hz.2 _ (List.mem_of_getElem? hz_cutS_l_6_j)) | exact refPut_sz hz (by omega) (hz.2 _ (List.mem_of_getElem? hz_cutS_l_6_j)) | exact refPut_sz (hz.take _) (by rw [List.length_take]; omega) (hz.2 _ (List.mem_of_getElem? hz_cutS_l_6_j)) | exact szl_one (rfind_sz hz) | exact szl_one (refFind_sz hz) | exact SzL.len (hz) | exact SzL.seens (hz) | exact SzL.both (hz) | exact SzL.len (hz.take _) | exact SzL.seens (hz.take _) | exact SzL.both (hz.take _) | exact SzL.len (rput_sz hz (by omega) (hz.2 _ (List.mem_of_getElem? hz_cutS_l_6_j))) | exact SzL.seens (rput_sz hz (by omega) (hz.2 _ (List.mem_of_getElem? hz_cutS_l_6_j))) | exact SzL.both (rput_sz hz (by omega) (hz.2 _ (List.mem_of_getElem? hz_cutS_l_6_j))) | exact SzL.len (rput_sz (hz.take _) (by rw [List.length_take]; omega) (hz.2 _ (List.mem_of_getElem? hz_cutS_l_6_j))) | exact SzL.seens (rput_sz (hz.take _) (by rw [List.length_take]; omega) (hz.2 _ (List.mem_of_getElem? hz_cutS_l_6_j))) | exact SzL.both (rput_sz (hz.take _) (by rw [List.length_take]; omega) (hz.2 _ (List.mem_of_getElem? hz_cutS_l_6_j))) | exact SzL.len (szl_one (rfind_sz hz)) | exact SzL.seens (szl_one (rfind_sz hz)) | exact SzL.both (szl_one (rfind_sz hz)) | exact SzL.len (szl_one (refFind_sz hz)) | exact SzL.seens (szl_one (refFind_sz hz)) | exact SzL.both (szl_one (refFind_sz hz)) | exact SzR.s (hz.2 _ (List.mem_of_getElem? hz_cutS_l_6_j)) | exact SzR.f (hz.2 _ (List.mem_of_getElem? hz_cutS_l_6_j)) | (simp only [List.length_take]; omega))) ⟨hs1867, hs1869⟩ ?_
                  intro w1871 hS1870
                  refine WL_unguard (yl_eq (d := 144) rfl rfl) ?_
                  refine WL.val1 (R_cast (R_not (b := sameS (([{ name := (rfindS ((cutS l 6)) z_ns_k).1.name, seens := (rfindS ((cutS l 6)) z_ns_k).1.seens, files := (rfindS ((cutS l 6)) z_ns_k).1.files : Rec }])) ([{ name := (refFindF z_ns_k (((cutS l 6)))).1.name, seens := (refFindF z_ns_k (((cutS l 6)))).1.seens, files := (refFindF z_ns_k (((cutS l 6)))).1.files : Rec }])) rfl) (bool_false (by rw [rfind_eq, sameS_refl]; rfl))) ?_
                  refine WL.val1 (R_pick (cb := false) (v := .bool (false)) rfl (fun h => by cases h) (fun _ => rfl)) ?_
                  refine WL.nil ?_
                  refine then_normal ?_
                  refine WC.condF rfl ?_
                  refine WC.skip ?_
                  refine block_normal ?_
                  refine then_normal ?_
                  refine WC.region ?_
                  refine WL.val1 (R_move (v := .int .i64 (((k : Nat) : Int))) rfl) ?_
                  refine WL.val1 (R_add_i (a := ((k : Nat) : Int)) (b := 1) rfl rfl (by omega)) ?_
                  refine WL.val1 (R_assign (v := .int .i64 ((((k : Nat) : Int) + 1))) rfl) ?_
                  refine WL.nil ?_
                  refine then_normal ?_
                  exact ⟨(k + 1), ⟨rfl, rfl, (by first | rfl | (apply congrArg (Value.int .i64); omega) | simp), trivial⟩, ⟨h1861, (((hl1241.trans hl1252).trans hl1695).trans hl1862), hS1870.pop.pop, (by (try dsimp only); first | assumption | omega | simp)⟩, (by first | (simp only []; omega) | (simp; omega))⟩
            · skip
              refine WC.exit ?_
              refine then_exit ?_
              refine then_exit ?_
              refine block_exit ?_
              refine then_normal ?_
              refine WC.seq ?_
              refine WC.region ?_
              refine S_callP (vs := []) hS1238 Tryd.call18 rfl law_fixed trivial ?_
              intro w1873 hS1872
              refine WL.val1 (R_assign (v := .bool (true)) rfl) ?_
              refine WL.nil ?_
              refine then_normal ?_
              refine WC.ret ?_
              refine top_ret (.bool (true)) (gives1 rfl rfl) ?_
              exact ⟨(by rfl), (hS1872.pop.weaken_h ((((((((hl4.trans hl13).trans hl24).trans hl164).trans hl170).trans hl179).trans hl188).trans hl199).trans hl1241))⟩
end Go.Stet
