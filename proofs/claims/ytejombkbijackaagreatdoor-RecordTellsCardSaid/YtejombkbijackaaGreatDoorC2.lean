/- Contracts of functions of the program, of the references and of the law: each says what the function returns, in plain Lean, and that it leaves all memory as it was; each under the conditions that its own statement names. -/
import Derived.Test.YtejombkbijackaaGreatDoorSeatZ2
import Derived.Test.YtejombkbijackaaGreatDoorBldZ
import Derived.Test.YtejombkbijackaaGreatDoorEng13
import Derived.Test.YtejombkbijackaaGreatDoorSpec11
import Derived.Test.YtejombkbijackaaGreatDoorC1
set_option linter.all false
set_option linter.unusedSimpArgs false
set_option linter.unusedVariables false
namespace Go.Stet
open Go Go.Eng Go.Proofs
set_option maxHeartbeats 400000 in
theorem ref02_Name (s : Str) (hs : s.length ≤ 1000000000) : PureC GG Tryz.prog 51 (fun _ => True) [.string (B (s))] (.bool (nameS s)) := by
  intro Γ h L w hpre hS
  refine Ret.body Tryz.func51 rfl Tryz.ntmps51 (Nat.le_of_ble_eq_true rfl) ?_
  refine WC.seq ?_
  refine WC.region ?_
  refine WL.val1 (R_assign (v := .bool (false)) rfl) ?_
  refine WL.nil ?_
  refine then_normal ?_
  refine WC.seq ?_
  refine WC.seq ?_
  refine WC.region ?_
  refine WL.val1 (R_assign (v := .int .i64 (0)) rfl) ?_
  refine WL.nil ?_
  refine then_normal ?_
  refine WC.block ?_
  refine WC.loopL (σ := Nat)
    (fun (q_ : Nat) => (fun (i : Nat) => [(0, .string (B (s))), (3, .int .i64 (((i : Nat) : Int)))]) (q_))
    (fun (q_ : Nat) (w_ : World) => (fun (i : Nat) => ∃ h3 : Hp, h.le h3 ∧ St Γ h3 (L) w_ ∧ (i ≤ s.length) ∧ (nameF (s.drop i) = nameF s)) (q_))
    (fun (q_ : Nat) => (fun (i : Nat) => s.length - i) (q_)) (0) ?_ ?_ ?_
  · exact ⟨rfl, (by first | rfl | (apply congrArg (Value.int .i64); omega) | simp), trivial⟩
  · exact ⟨h, Hp.le_refl _, hS, (by first | assumption | omega | simp), (by rfl)⟩
  · rintro i r5 w2 ⟨h3, hl4, hS1, f1, f2⟩
    try dsimp only at f1 f2
    refine WC.seq ?_
    refine WC.seq ?_
    refine WC.region ?_
    refine WL.val1 (R_move (v := .int .i64 (((i : Nat) : Int))) rfl) ?_
    refine WL.val1 (R_move (v := .string (B (s))) rfl) ?_
    refine WL.val1 (R_slen (a := s) rfl Tryz.underlying9) ?_
    refine WL.val1 (R_lss (a := ((i : Nat) : Int)) (b := (((s).length : Nat) : Int)) rfl rfl) ?_
    refine WL.nil ?_
    refine then_normal ?_
    refine WC.condP (((i : Nat) : Int) < (((s).length : Nat) : Int)) rfl (fun c0 => ?_) (fun c0 => ?_)
    · skip
      refine WC.skip ?_
      refine then_normal ?_
      refine WC.seq ?_
      refine WC.block ?_
      refine WC.seq ?_
      refine WC.region ?_
      refine WL.val1 (R_move (v := .string (B (s))) rfl) ?_
      refine WL.val1 (R_move (v := .int .i64 (((i : Nat) : Int))) rfl) ?_
      refine WL.val1 (R_sindex (a := s) (i := ((i : Nat) : Int)) (n := i) rfl rfl Tryz.underlying9 (by first | rfl | (omega)) (by omega)) ?_
      have hb6 := at8_rng s i
      refine WL.val1 (R_assign (v := .int .u8 ((at8 s i))) rfl) ?_
      refine WL.nil ?_
      refine then_normal ?_
      refine WC.seq ?_
      refine WC.region ?_
      refine WL.val1 (R_move (v := .int .u8 ((at8 s i))) rfl) ?_
      refine WL.val1 (R_geq (a := (at8 s i)) (b := 97) rfl rfl) ?_
      refine WL.val1 (R_move (v := .bool (decide (97 ≤ (at8 s i)))) rfl) ?_
      refine WL.gpure (gd := decide (97 ≤ (at8 s i))) (yl_t (d := 16) rfl rfl) (fun hg => R_move (v := .int .u8 ((at8 s i))) rfl) ?_
      refine WL.gpure (gd := decide (97 ≤ (at8 s i))) (yl_t (d := 16) rfl rfl) (fun hg => R_leq (a := (at8 s i)) (b := 122) (gvT hg rfl) rfl) ?_
      refine WL.val1 (R_and (cb := decide (97 ≤ (at8 s i))) (yb := decide ((at8 s i) ≤ 122)) rfl rfl rfl) ?_
      refine WL.val1 (R_move (v := .bool ((decide (97 ≤ (at8 s i)) && decide ((at8 s i) ≤ 122)))) rfl) ?_
      refine WL.gpure (gd := (!((decide (97 ≤ (at8 s i)) && decide ((at8 s i) ≤ 122))))) (yl_f (d := 20) rfl rfl) (fun hg => R_move (v := .int .u8 ((at8 s i))) rfl) ?_
      refine WL.gpure (gd := (!((decide (97 ≤ (at8 s i)) && decide ((at8 s i) ≤ 122))))) (yl_f (d := 20) rfl rfl) (fun hg => R_geq (a := (at8 s i)) (b := 48) (gvT hg rfl) rfl) ?_
      refine WL.gpure (gd := (!((decide (97 ≤ (at8 s i)) && decide ((at8 s i) ≤ 122))))) (yl_f (d := 20) rfl rfl) (fun hg => R_move (v := .bool (decide (48 ≤ (at8 s i)))) (gvT hg rfl)) ?_
      refine WL.gpure (gd := (((!((decide (97 ≤ (at8 s i)) && decide ((at8 s i) ≤ 122))))) && (decide (48 ≤ (at8 s i))))) (ylg_t (d := 23) rfl rfl) (fun hg => R_move (v := .int .u8 ((at8 s i))) rfl) ?_
      refine WL.gpure (gd := (((!((decide (97 ≤ (at8 s i)) && decide ((at8 s i) ≤ 122))))) && (decide (48 ≤ (at8 s i))))) (ylg_t (d := 23) rfl rfl) (fun hg => R_leq (a := (at8 s i)) (b := 57) (gvT hg rfl) rfl) ?_
      refine WL.gpure (gd := (!((decide (97 ≤ (at8 s i)) && decide ((at8 s i) ≤ 122))))) (yl_f (d := 20) rfl rfl) (fun hg => R_and (cb := decide (48 ≤ (at8 s i))) (yb := decide ((at8 s i) ≤ 57)) (gvT hg rfl) (gvA hg rfl) rfl) ?_
      refine WL.val1 (R_or (cb := (decide (97 ≤ (at8 s i)) && decide ((at8 s i) ≤ 122))) (yb := (decide (48 ≤ (at8 s i)) && decide ((at8 s i) ≤ 57))) rfl rfl rfl) ?_
      refine WL.val1 (R_move (v := .bool (((decide (97 ≤ (at8 s i)) && decide ((at8 s i) ≤ 122)) || (decide (48 ≤ (at8 s i)) && decide ((at8 s i) ≤ 57))))) rfl) ?_
      refine WL.gpure (gd := (!(((decide (97 ≤ (at8 s i)) && decide ((at8 s i) ≤ 122)) || (decide (48 ≤ (at8 s i)) && decide ((at8 s i) ≤ 57)))))) (yl_f (d := 28) rfl rfl) (fun hg => R_move (v := .int .u8 ((at8 s i))) rfl) ?_
      refine WL.gpure (gd := (!(((decide (97 ≤ (at8 s i)) && decide ((at8 s i) ≤ 122)) || (decide (48 ≤ (at8 s i)) && decide ((at8 s i) ≤ 57)))))) (yl_f (d := 28) rfl rfl) (fun hg => R_eql (a := (at8 s i)) (b := 45) (gvT hg rfl) rfl) ?_
      refine WL.val1 (R_or (cb := ((decide (97 ≤ (at8 s i)) && decide ((at8 s i) ≤ 122)) || (decide (48 ≤ (at8 s i)) && decide ((at8 s i) ≤ 57)))) (yb := decide ((at8 s i) = 45)) rfl rfl rfl) ?_
      refine WL.val1 (R_move (v := .bool ((((decide (97 ≤ (at8 s i)) && decide ((at8 s i) ≤ 122)) || (decide (48 ≤ (at8 s i)) && decide ((at8 s i) ≤ 57))) || decide ((at8 s i) = 45)))) rfl) ?_
      refine WL.gpure (gd := (!((((decide (97 ≤ (at8 s i)) && decide ((at8 s i) ≤ 122)) || (decide (48 ≤ (at8 s i)) && decide ((at8 s i) ≤ 57))) || decide ((at8 s i) = 45))))) (yl_f (d := 32) rfl rfl) (fun hg => R_move (v := .int .u8 ((at8 s i))) rfl) ?_
      refine WL.gpure (gd := (!((((decide (97 ≤ (at8 s i)) && decide ((at8 s i) ≤ 122)) || (decide (48 ≤ (at8 s i)) && decide ((at8 s i) ≤ 57))) || decide ((at8 s i) = 45))))) (yl_f (d := 32) rfl rfl) (fun hg => R_eql (a := (at8 s i)) (b := 46) (gvT hg rfl) rfl) ?_
      refine WL.val1 (R_or (cb := (((decide (97 ≤ (at8 s i)) && decide ((at8 s i) ≤ 122)) || (decide (48 ≤ (at8 s i)) && decide ((at8 s i) ≤ 57))) || decide ((at8 s i) = 45))) (yb := decide ((at8 s i) = 46)) rfl rfl rfl) ?_
      refine WL.val1 (R_not (b := ((((decide (97 ≤ (at8 s i)) && decide ((at8 s i) ≤ 122)) || (decide (48 ≤ (at8 s i)) && decide ((at8 s i) ≤ 57))) || decide ((at8 s i) = 45)) || decide ((at8 s i) = 46))) rfl) ?_
      refine WL.nil ?_
      refine then_normal ?_
      refine WC.condI (¬ (((((97 ≤ (at8 s i) ∧ (at8 s i) ≤ 122) ∨ (48 ≤ (at8 s i) ∧ (at8 s i) ≤ 57)) ∨ (at8 s i) = 45) ∨ (at8 s i) = 46))) (b := (!(((((decide (97 ≤ (at8 s i)) && decide ((at8 s i) ≤ 122)) || (decide (48 ≤ (at8 s i)) && decide ((at8 s i) ≤ 57))) || decide ((at8 s i) = 45)) || decide ((at8 s i) = 46))))) rfl (b_not (b_or (b_or (b_or (b_and b_dec b_dec) (b_and b_dec b_dec)) b_dec) b_dec)) (fun c1 => ?_) (fun c1 => ?_)
      · skip
        refine WC.seq ?_
        refine WC.region ?_
        refine WL.val1 (R_assign (v := .bool (false)) rfl) ?_
        refine WL.nil ?_
        refine then_normal ?_
        refine WC.ret ?_
        refine block_ret ?_
        refine then_ret ?_
        refine then_ret ?_
        refine block_ret ?_
        refine then_ret ?_
        refine top_ret (.bool (false)) (gives1 rfl rfl) ?_
        exact ⟨(by rw [nameS, ← f2, nameF_step s i (by omega), show okB (at8 s i) = false by unfold okB; exact decide_eq_false (by omega)]; rfl), (hS1.weaken_h hl4)⟩
      · skip
        refine WC.skip ?_
        refine block_normal ?_
        refine then_normal ?_
        refine WC.region ?_
        refine WL.val1 (R_move (v := .int .i64 (((i : Nat) : Int))) rfl) ?_
        refine WL.val1 (R_add_i (a := ((i : Nat) : Int)) (b := 1) rfl rfl (by omega)) ?_
        refine WL.val1 (R_assign (v := .int .i64 ((((i : Nat) : Int) + 1))) rfl) ?_
        refine WL.nil ?_
        refine then_normal ?_
        exact ⟨(i + 1), ⟨rfl, (by first | rfl | (apply congrArg (Value.int .i64); omega) | simp), trivial⟩, ⟨h3, hl4, hS1, (by (try dsimp only); first | assumption | omega | simp), (by (try dsimp only); rw [← f2, nameF_step s i (by omega), show okB (at8 s i) = true by unfold okB; exact decide_eq_true (by omega)]; rfl)⟩, (by first | (simp only []; omega) | (simp; omega))⟩
    · skip
      refine WC.exit ?_
      refine then_exit ?_
      refine then_exit ?_
      refine block_exit ?_
      refine then_normal ?_
      refine WC.seq ?_
      refine WC.region ?_
      refine WL.val1 (R_move (v := .string (B (s))) rfl) ?_
      refine WL.val1 (R_slen (a := s) rfl Tryz.underlying9) ?_
      refine WL.val1 (R_geq (a := (((s).length : Nat) : Int)) (b := 1) rfl rfl) ?_
      refine WL.val1 (R_move (v := .bool (decide (1 ≤ (((s).length : Nat) : Int)))) rfl) ?_
      refine WL.gpure (gd := decide (1 ≤ (((s).length : Nat) : Int))) (yl_t (d := 40) rfl rfl) (fun hg => R_move (v := .string (B (s))) rfl) ?_
      refine WL.gpure (gd := decide (1 ≤ (((s).length : Nat) : Int))) (yl_t (d := 40) rfl rfl) (fun hg => R_slen (a := s) (gvT hg rfl) Tryz.underlying9) ?_
      refine WL.gpure (gd := decide (1 ≤ (((s).length : Nat) : Int))) (yl_t (d := 40) rfl rfl) (fun hg => R_leq (a := (((s).length : Nat) : Int)) (b := 24) (gvT hg rfl) rfl) ?_
      refine WL.val1 (R_and (cb := decide (1 ≤ (((s).length : Nat) : Int))) (yb := decide ((((s).length : Nat) : Int) ≤ 24)) rfl rfl rfl) ?_
      refine WL.val1 (R_assign (v := .bool ((decide (1 ≤ (((s).length : Nat) : Int)) && decide ((((s).length : Nat) : Int) ≤ 24)))) rfl) ?_
      refine WL.nil ?_
      refine then_normal ?_
      refine WC.ret ?_
      refine top_ret (.bool ((decide (1 ≤ (((s).length : Nat) : Int)) && decide ((((s).length : Nat) : Int) ≤ 24)))) (gives1 rfl rfl) ?_
      exact ⟨(by rw [nameS, ← f2, nameF_end s i (by omega)]; apply congrArg Value.bool; rw [Bool.eq_iff_iff]; simp <;> omega), (hS1.weaken_h hl4)⟩
set_option maxHeartbeats 400000 in
theorem ref02_Right (l : List File) (l_a : Option Addr) (l_c : Nat) (hl : l.length ≤ 1000000000) (hsz : ∀ x ∈ l, x.name.length ≤ 1000000 ∧ x.text.length ≤ 1000000) : PureC GG Tryz.prog 40 (fun h => Sl RFile h l l_a l_c) [.slice (l_a) (l).length (l_c)] (.bool (rightS l)) := by
  intro Γ h L w hpre hS
  have sl_l := hpre
  refine Ret.body Tryz.func40 rfl Tryz.ntmps40 (Nat.le_of_ble_eq_true rfl) ?_
  refine WC.seq ?_
  refine WC.region ?_
  refine WL.val1 (R_assign (v := .bool (false)) rfl) ?_
  refine WL.nil ?_
  refine then_normal ?_
  refine WC.seq ?_
  refine WC.seq ?_
  refine WC.region ?_
  refine WL.val1 (R_assign (v := .int .i64 (0)) rfl) ?_
  refine WL.nil ?_
  refine then_normal ?_
  refine WC.block ?_
  refine WC.loopL (σ := Nat)
    (fun (q_ : Nat) => (fun (i : Nat) => [(0, .slice (l_a) (l).length (l_c)), (3, .int .i64 (((i : Nat) : Int)))]) (q_))
    (fun (q_ : Nat) (w_ : World) => (fun (i : Nat) => ∃ h3 : Hp, h.le h3 ∧ St Γ h3 (L) w_ ∧ (i ≤ l.length) ∧ (rightF (prevN l i) (l.drop i) = rightF none l)) (q_))
    (fun (q_ : Nat) => (fun (i : Nat) => l.length - i) (q_)) (0) ?_ ?_ ?_
  · exact ⟨rfl, (by first | rfl | (apply congrArg (Value.int .i64); omega) | simp), trivial⟩
  · exact ⟨h, Hp.le_refl _, hS, (by first | assumption | omega | simp), (by rfl)⟩
  · rintro i r5 w2 ⟨h3, hl4, hS1, f1, f2⟩
    try dsimp only at f1 f2
    refine WC.seq ?_
    refine WC.seq ?_
    refine WC.region ?_
    refine WL.val1 (R_move (v := .int .i64 (((i : Nat) : Int))) rfl) ?_
    refine WL.val1 (R_move (v := .slice (l_a) (l).length (l_c)) rfl) ?_
    refine WL.val1 (R_len_slice (n := (l).length) rfl Tryz.underlying40) ?_
    refine WL.val1 (R_lss (a := ((i : Nat) : Int)) (b := (((l).length : Nat) : Int)) rfl rfl) ?_
    refine WL.nil ?_
    refine then_normal ?_
    refine WC.condP (((i : Nat) : Int) < (((l).length : Nat) : Int)) rfl (fun c0 => ?_) (fun c0 => ?_)
    · skip
      refine WC.skip ?_
      refine then_normal ?_
      refine WC.seq ?_
      refine WC.block ?_
      refine WC.seq ?_
      refine WC.seq ?_
      refine WC.region ?_
      refine WL.val1 (R_move (v := .slice (l_a) (l).length (l_c)) rfl) ?_
      refine WL.val1 (R_move (v := .int .i64 (((i : Nat) : Int))) rfl) ?_
      obtain ⟨z_l_i, hz_l_i⟩ : ∃ z, (l)[i]? = some z := ⟨_, List.getElem?_eq_getElem (by omega)⟩
      obtain ⟨b6, o7, cs11, ha8, hr9, hat10⟩ := (sl_l.mono hl4).2 i z_l_i hz_l_i
      subst hr9
      have hb_l_i := hsz z_l_i (List.mem_of_getElem? hz_l_i)
      refine WL.val1 (R_indexAddrE (i := ((i : Nat) : Int)) (m := i) ha8 rfl rfl Tryz.underlying40 (Tryz.sizeOf46 _) (by first | rfl | (omega)) (by omega)) ?_
      refine WL.val1 (R_fieldAddr (b := b6) (off := (o7 + i * RFile.n)) (m := 0) rfl (fun _ => by kernel_rfl)) ?_
      refine WL.val1 (R_loadC (v := .string (B (z_l_i.name))) hS1 rfl (hat10.sub 0 1 (cs' := [.string (B (z_l_i.name))]) rfl) Tryz.isAgg9 rfl) ?_
      refine S_callP (vs := [.string (B (z_l_i.name))]) hS1 Tryz.call51 rfl (ref02_Name (z_l_i.name) (by first | assumption | omega)) trivial ?_
      intro w13 hS12
      refine WL.val1 (R_not (b := nameS z_l_i.name) rfl) ?_
      refine WL.val1 (R_move (v := .bool ((!(nameS z_l_i.name)))) rfl) ?_
      refine WL.gpure (gd := (!((!(nameS z_l_i.name))))) (yl_f (d := 17) rfl rfl) (fun hg => R_move (v := .slice (l_a) (l).length (l_c)) rfl) ?_
      refine WL.gpure (gd := (!((!(nameS z_l_i.name))))) (yl_f (d := 17) rfl rfl) (fun hg => R_move (v := .int .i64 (((i : Nat) : Int))) rfl) ?_
      refine WL.gpure (gd := (!((!(nameS z_l_i.name))))) (yl_f (d := 17) rfl rfl) (fun hg => R_indexAddrE (i := ((i : Nat) : Int)) (m := i) ha8 (gvT hg rfl) (gvT hg rfl) Tryz.underlying40 (Tryz.sizeOf46 _) (by first | rfl | (have hg_ := ((b_not (b_not Iff.rfl))).1 hg; omega)) (by have hg_ := ((b_not (b_not Iff.rfl))).1 hg; omega)) ?_
      refine WL.gpure (gd := (!((!(nameS z_l_i.name))))) (yl_f (d := 17) rfl rfl) (fun hg => R_fieldAddr (b := b6) (off := (o7 + i * RFile.n)) (m := 1) (gvT hg rfl) (fun _ => by kernel_rfl)) ?_
      refine WL.gpure (gd := (!((!(nameS z_l_i.name))))) (yl_f (d := 17) rfl rfl) (fun hg => R_loadC (v := .string (B (z_l_i.text))) hS12 (gvT hg rfl) (hat10.sub 1 1 (cs' := [.string (B (z_l_i.text))]) rfl) Tryz.isAgg9 rfl) ?_
      refine WL.gpure (gd := (!((!(nameS z_l_i.name))))) (yl_f (d := 17) rfl rfl) (fun hg => R_slen (a := z_l_i.text) (gvT hg rfl) Tryz.underlying9) ?_
      refine WL.gpure (gd := (!((!(nameS z_l_i.name))))) (yl_f (d := 17) rfl rfl) (fun hg => R_gtr (a := (((z_l_i.text).length : Nat) : Int)) (b := 4000) (gvT hg rfl) rfl) ?_
      refine WL.val1 (R_or (cb := (!(nameS z_l_i.name))) (yb := decide (4000 < (((z_l_i.text).length : Nat) : Int))) rfl rfl rfl) ?_
      refine WL.nil ?_
      refine then_normal ?_
      refine WC.condI ((¬ ((nameS z_l_i.name) = true) ∨ 4000 < (((z_l_i.text).length : Nat) : Int))) (b := ((!(nameS z_l_i.name)) || decide (4000 < (((z_l_i.text).length : Nat) : Int)))) rfl (b_or (b_not Iff.rfl) b_dec) (fun c1 => ?_) (fun c1 => ?_)
      · skip
        refine WC.seq ?_
        refine WC.region ?_
        refine WL.val1 (R_assign (v := .bool (false)) rfl) ?_
        refine WL.nil ?_
        refine then_normal ?_
        refine WC.ret ?_
        refine then_ret ?_
        refine block_ret ?_
        refine then_ret ?_
        refine then_ret ?_
        refine block_ret ?_
        refine then_ret ?_
        refine top_ret (.bool (false)) (gives1 rfl rfl) ?_
        exact ⟨(by apply congrArg Value.bool; rw [rightS, ← f2, rightF_no1 _ hz_l_i (c1.imp (by simp) (by omega))]; rfl), (hS12.weaken_h hl4)⟩
      · skip
        refine WC.skip ?_
        refine then_normal ?_
        refine WC.seq ?_
        obtain ⟨z_l_i_1, hz_l_i_1⟩ : ∃ z, (l)[(i - 1)]? = some z := ⟨_, List.getElem?_eq_getElem (by omega)⟩
        obtain ⟨b42, o43, cs47, ha44, hr45, hat46⟩ := (sl_l.mono hl4).2 (i - 1) z_l_i_1 hz_l_i_1
        subst hr45
        have hb_l_i_1 := hsz z_l_i_1 (List.mem_of_getElem? hz_l_i_1)
        refine WC.draw 14 [(0, .slice (l_a) (l).length (l_c)), (3, .int .i64 (((i : Nat) : Int)))] [fun _ v => v = .int .i64 (((i : Nat) : Int)), fun _ v => v = .bool (decide (0 < ((i : Nat) : Int))), fun _ v => v = .bool (decide (0 < ((i : Nat) : Int))), fun _ v => v = gv (decide (0 < ((i : Nat) : Int))) (.slice (l_a) (l).length (l_c)), fun _ v => v = gv (decide (0 < ((i : Nat) : Int))) (.int .i64 (((i : Nat) : Int))), fun _ v => v = gv (decide (0 < ((i : Nat) : Int))) (.int .i64 ((((i : Nat) : Int) - 1))), fun _ v => v = gv (decide (0 < ((i : Nat) : Int))) (.pointer (some ⟨b42, (o43 + (i - 1) * RFile.n), none⟩)), fun _ v => v = gv (decide (0 < ((i : Nat) : Int))) (.pointer (some ⟨b42, (o43 + (i - 1) * RFile.n), none⟩)), fun _ v => v = gv (decide (0 < ((i : Nat) : Int))) (.string (B (z_l_i_1.name))), fun _ v => v = gv (decide (0 < ((i : Nat) : Int))) (.slice (l_a) (l).length (l_c)), fun _ v => v = gv (decide (0 < ((i : Nat) : Int))) (.int .i64 (((i : Nat) : Int))), fun _ v => v = gv (decide (0 < ((i : Nat) : Int))) (.pointer (some ⟨b6, (o7 + i * RFile.n), none⟩)), fun _ v => v = gv (decide (0 < ((i : Nat) : Int))) (.pointer (some ⟨b6, (o7 + i * RFile.n), none⟩)), fun _ v => v = gv (decide (0 < ((i : Nat) : Int))) (.string (B (z_l_i.name)))] hS12 (by kernel_rfl) (by kernel_rfl) (MonoFs.pure (MonoFs.pure (MonoFs.pure (MonoFs.pure (MonoFs.pure (MonoFs.pure (MonoFs.pure (MonoFs.pure (MonoFs.pure (MonoFs.pure (MonoFs.pure (MonoFs.pure (MonoFs.pure (MonoFs.pure MonoFs.nil)))))))))))))) ⟨rfl, rfl, trivial⟩ ⟨?_, ?_, ?_, ?_, ?_, ?_, ?_, ?_, ?_, ?_, ?_, ?_, ?_, ?_, trivial⟩ ?_
        · intro r_ w77 h78 hl79 hS76 hb_ hp_
          obtain ⟨b0_, b1_, _⟩ := hb_
          refine WL.val1 (R_move (v := .int .i64 (((i : Nat) : Int))) b1_) ?_
          refine WL.nil ?_
          exact ⟨rfl, _, _, rfl, (Hp.le_refl _), rfl, hS76⟩
        · intro r_ w81 h82 hl83 hS80 hb_ hp_
          obtain ⟨b0_, b1_, _⟩ := hb_
          obtain ⟨p0_, _⟩ := hp_
          have p0_ : r_ 26 = .int .i64 (((i : Nat) : Int)) := p0_
          refine WL.val1 (R_gtr (a := ((i : Nat) : Int)) (b := 0) p0_ rfl) ?_
          refine WL.nil ?_
          exact ⟨rfl, _, _, rfl, (Hp.le_refl _), rfl, hS80⟩
        · intro r_ w85 h86 hl87 hS84 hb_ hp_
          obtain ⟨b0_, b1_, _⟩ := hb_
          obtain ⟨p0_, _⟩ := hp_
          have p0_ : r_ 27 = .bool (decide (0 < ((i : Nat) : Int))) := p0_
          refine WL.val1 (R_move (v := .bool (decide (0 < ((i : Nat) : Int)))) p0_) ?_
          refine WL.nil ?_
          exact ⟨rfl, _, _, rfl, (Hp.le_refl _), rfl, hS84⟩
        · intro r_ w89 h90 hl91 hS88 hb_ hp_
          obtain ⟨b0_, b1_, _⟩ := hb_
          obtain ⟨p0_, _⟩ := hp_
          have p0_ : r_ 28 = .bool (decide (0 < ((i : Nat) : Int))) := p0_
          refine WL.gpure (gd := decide (0 < ((i : Nat) : Int))) (yl_t (d := 28) rfl p0_) (fun hg => R_move (v := .slice (l_a) (l).length (l_c)) b0_) ?_
          refine WL.nil ?_
          exact ⟨rfl, _, _, rfl, (Hp.le_refl _), rfl, hS88⟩
        · intro r_ w93 h94 hl95 hS92 hb_ hp_
          obtain ⟨b0_, b1_, _⟩ := hb_
          obtain ⟨p0_, _⟩ := hp_
          have p0_ : r_ 28 = .bool (decide (0 < ((i : Nat) : Int))) := p0_
          refine WL.gpure (gd := decide (0 < ((i : Nat) : Int))) (yl_t (d := 28) rfl p0_) (fun hg => R_move (v := .int .i64 (((i : Nat) : Int))) b1_) ?_
          refine WL.nil ?_
          exact ⟨rfl, _, _, rfl, (Hp.le_refl _), rfl, hS92⟩
        · intro r_ w97 h98 hl99 hS96 hb_ hp_
          obtain ⟨b0_, b1_, _⟩ := hb_
          obtain ⟨p0_, p1_, _⟩ := hp_
          have p0_ : r_ 30 = gv (decide (0 < ((i : Nat) : Int))) (.int .i64 (((i : Nat) : Int))) := p0_
          have p1_ : r_ 28 = .bool (decide (0 < ((i : Nat) : Int))) := p1_
          refine WL.gpure (gd := decide (0 < ((i : Nat) : Int))) (yl_t (d := 28) rfl p1_) (fun hg => R_sub_i (a := ((i : Nat) : Int)) (b := 1) (gvT hg p0_) rfl (by have hg_ := (b_dec).1 hg; omega)) ?_
          refine WL.nil ?_
          exact ⟨rfl, _, _, rfl, (Hp.le_refl _), rfl, hS96⟩
        · intro r_ w101 h102 hl103 hS100 hb_ hp_
          obtain ⟨b0_, b1_, _⟩ := hb_
          obtain ⟨p0_, p1_, p2_, _⟩ := hp_
          have p0_ : r_ 29 = gv (decide (0 < ((i : Nat) : Int))) (.slice (l_a) (l).length (l_c)) := p0_
          have p1_ : r_ 31 = gv (decide (0 < ((i : Nat) : Int))) (.int .i64 ((((i : Nat) : Int) - 1))) := p1_
          have p2_ : r_ 28 = .bool (decide (0 < ((i : Nat) : Int))) := p2_
          refine WL.gpure (gd := decide (0 < ((i : Nat) : Int))) (yl_t (d := 28) rfl p2_) (fun hg => R_indexAddrE (i := (((i : Nat) : Int) - 1)) (m := (i - 1)) ha44 (gvT hg p0_) (gvT hg p1_) Tryz.underlying40 (Tryz.sizeOf46 _) (by first | rfl | (have hg_ := (b_dec).1 hg; omega)) (by have hg_ := (b_dec).1 hg; omega)) ?_
          refine WL.nil ?_
          exact ⟨rfl, _, _, rfl, (Hp.le_refl _), rfl, hS100⟩
        · intro r_ w105 h106 hl107 hS104 hb_ hp_
          obtain ⟨b0_, b1_, _⟩ := hb_
          obtain ⟨p0_, p1_, _⟩ := hp_
          have p0_ : r_ 32 = gv (decide (0 < ((i : Nat) : Int))) (.pointer (some ⟨b42, (o43 + (i - 1) * RFile.n), none⟩)) := p0_
          have p1_ : r_ 28 = .bool (decide (0 < ((i : Nat) : Int))) := p1_
          refine WL.gpure (gd := decide (0 < ((i : Nat) : Int))) (yl_t (d := 28) rfl p1_) (fun hg => R_fieldAddr (b := b42) (off := (o43 + (i - 1) * RFile.n)) (m := 0) (gvT hg p0_) (fun _ => by kernel_rfl)) ?_
          refine WL.nil ?_
          exact ⟨rfl, _, _, rfl, (Hp.le_refl _), rfl, hS104⟩
        · intro r_ w109 h110 hl111 hS108 hb_ hp_
          obtain ⟨b0_, b1_, _⟩ := hb_
          obtain ⟨p0_, p1_, _⟩ := hp_
          have p0_ : r_ 33 = gv (decide (0 < ((i : Nat) : Int))) (.pointer (some ⟨b42, (o43 + (i - 1) * RFile.n), none⟩)) := p0_
          have p1_ : r_ 28 = .bool (decide (0 < ((i : Nat) : Int))) := p1_
          refine WL.gpure (gd := decide (0 < ((i : Nat) : Int))) (yl_t (d := 28) rfl p1_) (fun hg => R_loadC (v := .string (B (z_l_i_1.name))) hS108 (gvT hg p0_) ((hat46.mono hl111).sub 0 1 (cs' := [.string (B (z_l_i_1.name))]) rfl) Tryz.isAgg9 rfl) ?_
          refine WL.nil ?_
          exact ⟨rfl, _, _, rfl, (Hp.le_refl _), rfl, hS108⟩
        · intro r_ w113 h114 hl115 hS112 hb_ hp_
          obtain ⟨b0_, b1_, _⟩ := hb_
          obtain ⟨p0_, _⟩ := hp_
          have p0_ : r_ 28 = .bool (decide (0 < ((i : Nat) : Int))) := p0_
          refine WL.gpure (gd := decide (0 < ((i : Nat) : Int))) (yl_t (d := 28) rfl p0_) (fun hg => R_move (v := .slice (l_a) (l).length (l_c)) b0_) ?_
          refine WL.nil ?_
          exact ⟨rfl, _, _, rfl, (Hp.le_refl _), rfl, hS112⟩
        · intro r_ w117 h118 hl119 hS116 hb_ hp_
          obtain ⟨b0_, b1_, _⟩ := hb_
          obtain ⟨p0_, _⟩ := hp_
          have p0_ : r_ 28 = .bool (decide (0 < ((i : Nat) : Int))) := p0_
          refine WL.gpure (gd := decide (0 < ((i : Nat) : Int))) (yl_t (d := 28) rfl p0_) (fun hg => R_move (v := .int .i64 (((i : Nat) : Int))) b1_) ?_
          refine WL.nil ?_
          exact ⟨rfl, _, _, rfl, (Hp.le_refl _), rfl, hS116⟩
        · intro r_ w121 h122 hl123 hS120 hb_ hp_
          obtain ⟨b0_, b1_, _⟩ := hb_
          obtain ⟨p0_, p1_, p2_, _⟩ := hp_
          have p0_ : r_ 35 = gv (decide (0 < ((i : Nat) : Int))) (.slice (l_a) (l).length (l_c)) := p0_
          have p1_ : r_ 36 = gv (decide (0 < ((i : Nat) : Int))) (.int .i64 (((i : Nat) : Int))) := p1_
          have p2_ : r_ 28 = .bool (decide (0 < ((i : Nat) : Int))) := p2_
          refine WL.gpure (gd := decide (0 < ((i : Nat) : Int))) (yl_t (d := 28) rfl p2_) (fun hg => R_indexAddrE (i := ((i : Nat) : Int)) (m := i) ha8 (gvT hg p0_) (gvT hg p1_) Tryz.underlying40 (Tryz.sizeOf46 _) (by first | rfl | (have hg_ := (b_dec).1 hg; omega)) (by have hg_ := (b_dec).1 hg; omega)) ?_
          refine WL.nil ?_
          exact ⟨rfl, _, _, rfl, (Hp.le_refl _), rfl, hS120⟩
        · intro r_ w125 h126 hl127 hS124 hb_ hp_
          obtain ⟨b0_, b1_, _⟩ := hb_
          obtain ⟨p0_, p1_, _⟩ := hp_
          have p0_ : r_ 37 = gv (decide (0 < ((i : Nat) : Int))) (.pointer (some ⟨b6, (o7 + i * RFile.n), none⟩)) := p0_
          have p1_ : r_ 28 = .bool (decide (0 < ((i : Nat) : Int))) := p1_
          refine WL.gpure (gd := decide (0 < ((i : Nat) : Int))) (yl_t (d := 28) rfl p1_) (fun hg => R_fieldAddr (b := b6) (off := (o7 + i * RFile.n)) (m := 0) (gvT hg p0_) (fun _ => by kernel_rfl)) ?_
          refine WL.nil ?_
          exact ⟨rfl, _, _, rfl, (Hp.le_refl _), rfl, hS124⟩
        · intro r_ w129 h130 hl131 hS128 hb_ hp_
          obtain ⟨b0_, b1_, _⟩ := hb_
          obtain ⟨p0_, p1_, _⟩ := hp_
          have p0_ : r_ 38 = gv (decide (0 < ((i : Nat) : Int))) (.pointer (some ⟨b6, (o7 + i * RFile.n), none⟩)) := p0_
          have p1_ : r_ 28 = .bool (decide (0 < ((i : Nat) : Int))) := p1_
          refine WL.gpure (gd := decide (0 < ((i : Nat) : Int))) (yl_t (d := 28) rfl p1_) (fun hg => R_loadC (v := .string (B (z_l_i.name))) hS128 (gvT hg p0_) ((hat10.mono hl131).sub 0 1 (cs' := [.string (B (z_l_i.name))]) rfl) Tryz.isAgg9 rfl) ?_
          refine WL.nil ?_
          exact ⟨rfl, _, _, rfl, (Hp.le_refl _), rfl, hS128⟩
        · intro r_ w133 h134 hl135 hS132 hb_ hf_
          obtain ⟨b0_, b1_, _⟩ := hb_
          obtain ⟨q0_, q1_, q2_, q3_, q4_, q5_, q6_, q7_, q8_, q9_, q10_, q11_, q12_, q13_, _⟩ := hf_
          refine WL.frame [(0, .slice (l_a) (l).length (l_c)), (3, .int .i64 (((i : Nat) : Int))), (26, .int .i64 (((i : Nat) : Int))), (27, .bool (decide (0 < ((i : Nat) : Int)))), (28, .bool (decide (0 < ((i : Nat) : Int)))), (29, gv (decide (0 < ((i : Nat) : Int))) (.slice (l_a) (l).length (l_c))), (30, gv (decide (0 < ((i : Nat) : Int))) (.int .i64 (((i : Nat) : Int)))), (31, gv (decide (0 < ((i : Nat) : Int))) (.int .i64 ((((i : Nat) : Int) - 1)))), (32, gv (decide (0 < ((i : Nat) : Int))) (.pointer (some ⟨b42, (o43 + (i - 1) * RFile.n), none⟩))), (33, gv (decide (0 < ((i : Nat) : Int))) (.pointer (some ⟨b42, (o43 + (i - 1) * RFile.n), none⟩))), (34, gv (decide (0 < ((i : Nat) : Int))) (.string (B (z_l_i_1.name)))), (35, gv (decide (0 < ((i : Nat) : Int))) (.slice (l_a) (l).length (l_c))), (36, gv (decide (0 < ((i : Nat) : Int))) (.int .i64 (((i : Nat) : Int)))), (37, gv (decide (0 < ((i : Nat) : Int))) (.pointer (some ⟨b6, (o7 + i * RFile.n), none⟩))), (38, gv (decide (0 < ((i : Nat) : Int))) (.pointer (some ⟨b6, (o7 + i * RFile.n), none⟩))), (39, gv (decide (0 < ((i : Nat) : Int))) (.string (B (z_l_i.name))))] ⟨b0_, b1_, q0_, q1_, q2_, q3_, q4_, q5_, q6_, q7_, q8_, q9_, q10_, q11_, q12_, q13_, trivial⟩ (fun r_ => ?_)
          refine WL.gpure (gd := decide (0 < ((i : Nat) : Int))) (yl_t (d := 28) rfl rfl) (fun hg => R_sgeq (a := z_l_i_1.name) (b := z_l_i.name) (gvT hg rfl) (gvT hg rfl)) ?_
          refine WL.val1 (R_and (cb := decide (0 < ((i : Nat) : Int))) (yb := (!(Op.bytesLess z_l_i_1.name z_l_i.name))) rfl rfl rfl) ?_
          refine WL.nil ?_
          refine then_normal ?_
          refine WC.condI ((0 < ((i : Nat) : Int) ∧ ¬ ((Op.bytesLess z_l_i_1.name z_l_i.name) = true))) (b := (decide (0 < ((i : Nat) : Int)) && (!(Op.bytesLess z_l_i_1.name z_l_i.name)))) rfl (b_and b_dec (b_not Iff.rfl)) (fun c2 => ?_) (fun c2 => ?_)
          · skip
            refine WC.seq ?_
            refine WC.region ?_
            refine WL.val1 (R_assign (v := .bool (false)) rfl) ?_
            refine WL.nil ?_
            refine then_normal ?_
            refine WC.ret ?_
            refine block_ret ?_
            refine then_ret ?_
            refine then_ret ?_
            refine block_ret ?_
            refine then_ret ?_
            refine top_ret (.bool (false)) (gives1 rfl rfl) ?_
            exact ⟨(by apply congrArg Value.bool; rw [rightS, ← f2, rightF_no2 hz_l_i (by omega) hz_l_i_1 (by simpa using c2.2)]; rfl), (hS132.weaken_h (hl4.trans hl135))⟩
          · skip
            refine WC.skip ?_
            refine block_normal ?_
            refine then_normal ?_
            refine WC.region ?_
            refine WL.val1 (R_move (v := .int .i64 (((i : Nat) : Int))) rfl) ?_
            refine WL.val1 (R_add_i (a := ((i : Nat) : Int)) (b := 1) rfl rfl (by omega)) ?_
            refine WL.val1 (R_assign (v := .int .i64 ((((i : Nat) : Int) + 1))) rfl) ?_
            refine WL.nil ?_
            refine then_normal ?_
            exact ⟨(i + 1), ⟨rfl, (by first | rfl | (apply congrArg (Value.int .i64); omega) | simp), trivial⟩, ⟨h134, (hl4.trans hl135), hS132, (by (try dsimp only); first | assumption | omega | simp), (by (try dsimp only); rw [← f2]; exact (rightF_yes hz_l_i (Decidable.byContradiction fun hh => c1 (.inl hh)) (by omega) (fun y h0 hy => by rw [hz_l_i_1] at hy; injection hy with hy; subst hy; exact Decidable.byContradiction fun hh => c2 ⟨by omega, hh⟩)).symm)⟩, (by first | (simp only []; omega) | (simp; omega))⟩
    · skip
      refine WC.exit ?_
      refine then_exit ?_
      refine then_exit ?_
      refine block_exit ?_
      refine then_normal ?_
      refine WC.seq ?_
      refine WC.region ?_
      refine WL.val1 (R_move (v := .slice (l_a) (l).length (l_c)) rfl) ?_
      refine WL.val1 (R_len_slice (n := (l).length) rfl Tryz.underlying40) ?_
      refine WL.val1 (R_leq (a := (((l).length : Nat) : Int)) (b := 32) rfl rfl) ?_
      refine WL.val1 (R_assign (v := .bool (decide ((((l).length : Nat) : Int) ≤ 32))) rfl) ?_
      refine WL.nil ?_
      refine then_normal ?_
      refine WC.ret ?_
      refine top_ret (.bool (decide ((((l).length : Nat) : Int) ≤ 32))) (gives1 rfl rfl) ?_
      exact ⟨(by apply congrArg Value.bool; rw [rightS, ← f2, rightF_end _ (by omega), Bool.true_and]; exact decide_eq_decide.2 (by omega)), (hS1.weaken_h hl4)⟩
end Go.Stet
