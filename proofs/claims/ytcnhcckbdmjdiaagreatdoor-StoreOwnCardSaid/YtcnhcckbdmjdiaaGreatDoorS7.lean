/- What the layers compute, in plain Lean, and laws about that. Each under the conditions that its own statement names. -/
import Derived.Test.YtcnhcckbdmjdiaaGreatDoorSeatS3
import Derived.Test.YtcnhcckbdmjdiaaGreatDoorBldS
import Derived.Test.YtcnhcckbdmjdiaaGreatDoorEng18
import Derived.Test.YtcnhcckbdmjdiaaGreatDoorSpecS1
import Derived.Test.YtcnhcckbdmjdiaaGreatDoorS6
set_option linter.all false
set_option linter.unusedSimpArgs false
set_option linter.unusedVariables false
namespace Go.Stet
open Go Go.Eng Go.Proofs
set_option maxHeartbeats 400000 in
theorem store_half (n : Int) (hn : 4 ≤ n ∧ n ≤ 9223372036854775807) : PureC GG Tryz.prog 21 (fun _ => True) [.int .i64 (n)] (.int .i64 (((n - 2) / 2))) := by
  intro Γ h L w hpre hS
  refine Ret.body Tryz.func21 rfl Tryz.ntmps21 (Nat.le_of_ble_eq_true rfl) ?_
  refine WC.seq ?_
  refine WC.region ?_
  refine WL.val1 (R_assign (v := .int .i64 (0)) rfl) ?_
  refine WL.nil ?_
  refine then_normal ?_
  refine WC.seq ?_
  refine WC.region ?_
  refine WL.val1 (R_move (v := .int .i64 (n)) rfl) ?_
  refine WL.val1 (R_sub_i (a := n) (b := 2) rfl rfl (by omega)) ?_
  refine WL.val1 (R_quo_i (a := (n - 2)) (b := 2) rfl rfl (by omega) (by omega)) ?_
  refine WL.val1 (R_assign (v := .int .i64 (((n - 2) / 2))) rfl) ?_
  refine WL.nil ?_
  refine then_normal ?_
  refine WC.ret ?_
  refine top_ret (.int .i64 (((n - 2) / 2))) (gives1 rfl rfl) ?_
  exact ⟨(by first | rfl | (simp; done)), hS⟩
set_option maxHeartbeats 400000 in
theorem store_Room (n : Int) (hn : -9223372036854775808 ≤ n ∧ n ≤ 9223372036854775807) : PureC GG Tryz.prog 8 (fun _ => True) [.int .i64 (n)] (.int .i64 ((roomS n))) := by
  intro Γ h L w hpre hS
  refine Ret.body Tryz.func8 rfl Tryz.ntmps8 (Nat.le_of_ble_eq_true rfl) ?_
  refine WC.seq ?_
  refine WC.region ?_
  refine WL.val1 (R_assign (v := .int .i64 (0)) rfl) ?_
  refine WL.nil ?_
  refine then_normal ?_
  refine WC.seq ?_
  refine WC.seq ?_
  refine WC.region ?_
  refine WL.val1 (R_move (v := .int .i64 (n)) rfl) ?_
  refine WL.val1 (R_lss (a := n) (b := 4) rfl rfl) ?_
  refine WL.nil ?_
  refine then_normal ?_
  refine WC.condP (n < 4) rfl (fun c0 => ?_) (fun c0 => ?_)
  · skip
    refine WC.seq ?_
    refine WC.region ?_
    refine WL.val1 (R_assign (v := .int .i64 (0)) rfl) ?_
    refine WL.nil ?_
    refine then_normal ?_
    refine WC.ret ?_
    refine then_ret ?_
    refine top_ret (.int .i64 (0)) (gives1 rfl rfl) ?_
    exact ⟨(by rw [roomS, if_pos c0]), hS⟩
  · skip
    refine WC.skip ?_
    refine then_normal ?_
    refine WC.seq ?_
    refine WC.region ?_
    refine WL.val1 (R_move (v := .int .i64 (n)) rfl) ?_
    refine WL.val1 (R_min (a := n) (b := 4096) rfl rfl) ?_
    refine S_callP (vs := [.int .i64 ((min (n) (4096)))]) hS Tryz.call21 rfl (store_half ((min (n) (4096))) (by first | assumption | omega)) trivial ?_
    intro w2 hS1
    refine WL.val1 (R_mul_i (a := 64) (b := ((((min (n) (4096))) - 2) / 2)) rfl rfl (by omega)) ?_
    refine WL.val1 (R_assign (v := .int .i64 ((64 * ((((min (n) (4096))) - 2) / 2)))) rfl) ?_
    refine WL.nil ?_
    refine then_normal ?_
    refine WC.ret ?_
    refine top_ret (.int .i64 ((64 * ((((min (n) (4096))) - 2) / 2)))) (gives1 rfl rfl) ?_
    exact ⟨(by rw [roomS, if_neg c0]), hS1⟩
set_option maxHeartbeats 400000 in
theorem ref05_Room (n : Int) (hn : -9223372036854775808 ≤ n ∧ n ≤ 9223372036854775807) : PureC GG Tryz.prog 9 (fun _ => True) [.int .i64 (n)] (.int .i64 ((roomS n))) := by
  intro Γ h L w hpre hS
  refine Ret.body Tryz.func9 rfl Tryz.ntmps9 (Nat.le_of_ble_eq_true rfl) ?_
  refine WC.seq ?_
  refine WC.region ?_
  refine WL.val1 (R_assign (v := .int .i64 (0)) rfl) ?_
  refine WL.nil ?_
  refine then_normal ?_
  refine WC.seq ?_
  refine WC.seq ?_
  refine WC.region ?_
  refine WL.val1 (R_move (v := .int .i64 (n)) rfl) ?_
  refine WL.val1 (R_lss (a := n) (b := 4) rfl rfl) ?_
  refine WL.nil ?_
  refine then_normal ?_
  refine WC.condP (n < 4) rfl (fun c0 => ?_) (fun c0 => ?_)
  · skip
    refine WC.seq ?_
    refine WC.region ?_
    refine WL.val1 (R_assign (v := .int .i64 (0)) rfl) ?_
    refine WL.nil ?_
    refine then_normal ?_
    refine WC.ret ?_
    refine then_ret ?_
    refine top_ret (.int .i64 (0)) (gives1 rfl rfl) ?_
    exact ⟨(by rw [roomS, if_pos c0]), hS⟩
  · skip
    refine WC.skip ?_
    refine then_normal ?_
    refine WC.seq ?_
    refine WC.region ?_
    refine WL.val1 (R_move (v := .int .i64 (n)) rfl) ?_
    refine WL.val1 (R_min (a := n) (b := 4096) rfl rfl) ?_
    refine WL.val1 (R_sub_i (a := (min (n) (4096))) (b := 2) rfl rfl (by omega)) ?_
    refine WL.val1 (R_quo_i (a := ((min (n) (4096)) - 2)) (b := 2) rfl rfl (by omega) (by omega)) ?_
    refine WL.val1 (R_mul_i (a := 64) (b := (((min (n) (4096)) - 2) / 2)) rfl rfl (by omega)) ?_
    refine WL.val1 (R_assign (v := .int .i64 ((64 * (((min (n) (4096)) - 2) / 2)))) rfl) ?_
    refine WL.nil ?_
    refine then_normal ?_
    refine WC.ret ?_
    refine top_ret (.int .i64 ((64 * (((min (n) (4096)) - 2) / 2)))) (gives1 rfl rfl) ?_
    exact ⟨(by rw [roomS, if_neg c0]), hS⟩
set_option maxHeartbeats 400000 in
theorem ref05_May (l : List File) (l_a : Option Addr) (l_c : Nat) (n : Int) (hn : -9223372036854775808 ≤ n ∧ n ≤ 9223372036854775807) (hl : l.length ≤ 1000000) (hsz : ∀ x ∈ l, x.name.length ≤ 9223372036854775807 ∧ x.text.length ≤ 9223372036854775807) : PureC GG Tryz.prog 13 (fun h => Sl RFile h l l_a l_c) [.slice (l_a) (l).length (l_c), .int .i64 (n)] (.int .i64 ((mayD l n))) := by
  intro Γ h L w hpre hS
  have sl_l := hpre
  refine Ret.body Tryz.func13 rfl Tryz.ntmps13 (Nat.le_of_ble_eq_true rfl) ?_
  refine WC.seq ?_
  refine WC.region ?_
  refine WL.val1 (R_assign (v := .int .i64 (0)) rfl) ?_
  refine WL.nil ?_
  refine then_normal ?_
  refine WC.seq ?_
  refine WC.seq ?_
  refine WC.region ?_
  refine WL.val1 (R_move (v := .slice (l_a) (l).length (l_c)) rfl) ?_
  refine S_callP (vs := [.slice (l_a) (l).length (l_c)]) hS Tryz.call34 rfl (ref02_Right (l) (l_a) (l_c) (by first | assumption | omega | exact rightS_sz (by simpa using c0)) (by first | assumption | omega | exact rightS_sz (by simpa using c0))) sl_l ?_
  intro w2 hS1
  refine WL.val1 (R_not (b := rightS l) rfl) ?_
  refine WL.nil ?_
  refine then_normal ?_
  refine WC.condI (¬ ((rightS l) = true)) (b := (!(rightS l))) rfl (b_not Iff.rfl) (fun c0 => ?_) (fun c0 => ?_)
  · skip
    refine WC.seq ?_
    refine WC.region ?_
    refine WL.val1 (R_assign (v := .int .i64 (5)) rfl) ?_
    refine WL.nil ?_
    refine then_normal ?_
    refine WC.ret ?_
    refine then_ret ?_
    refine top_ret (.int .i64 (5)) (gives1 rfl rfl) ?_
    exact ⟨(by rw [mayD, if_pos (by simpa using c0)]), hS1⟩
  · skip
    refine WC.skip ?_
    refine then_normal ?_
    refine WC.seq ?_
    refine WC.seq ?_
    refine WC.region ?_
    refine WL.val1 (R_move (v := .slice (l_a) (l).length (l_c)) rfl) ?_
    refine S_callP (vs := [.slice (l_a) (l).length (l_c)]) hS1 Tryz.call35 rfl (ref03_Files (l) (l_a) (l_c) (by first | assumption | omega | exact rightS_sz (by simpa using c0))) sl_l ?_
    intro w4 hS3
    refine WL.val1 (R_slen (a := filesS l) rfl Tryz.underlying9) ?_
    refine WL.val1 (R_move (v := .int .i64 (n)) rfl) ?_
    refine S_callP (vs := [.int .i64 (n)]) hS3 Tryz.call9 rfl (ref05_Room (n) (by first | assumption | omega | exact rightS_sz (by simpa using c0))) trivial ?_
    intro w6 hS5
    refine WL.val1 (R_gtr (a := (((filesS l).length : Nat) : Int)) (b := (roomS n)) rfl rfl) ?_
    refine WL.nil ?_
    refine then_normal ?_
    refine WC.condP ((roomS n) < (((filesS l).length : Nat) : Int)) rfl (fun c1 => ?_) (fun c1 => ?_)
    · skip
      refine WC.seq ?_
      refine WC.region ?_
      refine WL.val1 (R_assign (v := .int .i64 (7)) rfl) ?_
      refine WL.nil ?_
      refine then_normal ?_
      refine WC.ret ?_
      refine then_ret ?_
      refine top_ret (.int .i64 (7)) (gives1 rfl rfl) ?_
      exact ⟨(by rw [mayD, if_neg (by simpa using c0), if_pos c1]), hS5⟩
    · skip
      refine WC.skip ?_
      refine then_normal ?_
      refine WC.seq ?_
      refine WC.region ?_
      refine WL.val1 (R_assign (v := .int .i64 (0)) rfl) ?_
      refine WL.nil ?_
      refine then_normal ?_
      refine WC.ret ?_
      refine top_ret (.int .i64 (0)) (gives1 rfl rfl) ?_
      exact ⟨(by rw [mayD, if_neg (by simpa using c0), if_neg c1]), hS5⟩
set_option maxHeartbeats 400000 in
theorem store_now (S : Sto) (S_b : Nat) (S_files_a : Option Addr) (S_files_c : Nat) (D : Dsk) (D_b : Nat) (D_held_b D_held_k : Nat) (D_pend_a : Option Addr) (D_pend_c : Nat)  : MutH GG Tryz.prog 27 (fun _ => True) [.pointer (some ⟨S_b, 0, none⟩)] (fun h => [row (S_b) [.pointer (some ⟨D_b, 0, none⟩), .int .i64 (S.g0), .int .i64 (S.z0), .int .i64 (S.g1), .int .i64 (S.z1), .slice (S_files_a) (S.files).length (S_files_c)] 60, grow 29 RFile h (S.files) (S_files_a) (S_files_c), row (D_b) [.bool (D.is), .int .i64 (D.left), .int .i64 (D.n), .map (some (D_held_b)), .slice (D_pend_a) (D.pend).length (D_pend_c)] 78, mpG Mwr (D_held_b) (D.held) (D_held_k), grow 80 RWr h (D.pend) (D_pend_a) (D_pend_c)]) (fun h A v => v = .int .i64 ((nowS S)) ∧ A = [row (S_b) [.pointer (some ⟨D_b, 0, none⟩), .int .i64 (S.g0), .int .i64 (S.z0), .int .i64 (S.g1), .int .i64 (S.z1), .slice (S_files_a) (S.files).length (S_files_c)] 60, grow 29 RFile h (S.files) (S_files_a) (S_files_c), row (D_b) [.bool (D.is), .int .i64 (D.left), .int .i64 (D.n), .map (some (D_held_b)), .slice (D_pend_a) (D.pend).length (D_pend_c)] 78, mpG Mwr (D_held_b) (D.held) (D_held_k), grow 80 RWr h (D.pend) (D_pend_a) (D_pend_c)]) := by
  intro Γ h L w hpre hS
  refine Ret.body Tryz.func27 rfl Tryz.ntmps27 (Nat.le_of_ble_eq_true rfl) ?_
  have hS : St Γ h (row (S_b) [.pointer (some ⟨D_b, 0, none⟩), .int .i64 (S.g0), .int .i64 (S.z0), .int .i64 (S.g1), .int .i64 (S.z1), .slice (S_files_a) (S.files).length (S_files_c)] 60 :: grow 29 RFile h (S.files) (S_files_a) (S_files_c) :: row (D_b) [.bool (D.is), .int .i64 (D.left), .int .i64 (D.n), .map (some (D_held_b)), .slice (D_pend_a) (D.pend).length (D_pend_c)] 78 :: mpG Mwr (D_held_b) (D.held) (D_held_k) :: grow 80 RWr h (D.pend) (D_pend_a) (D_pend_c) :: L) w := hS
  refine WC.seq ?_
  refine WC.region ?_
  refine WL.val1 (R_assign (v := .int .i64 (0)) rfl) ?_
  refine WL.nil ?_
  refine then_normal ?_
  refine WC.seq ?_
  refine WC.seq ?_
  refine WC.draw 12 [(0, .pointer (some ⟨S_b, 0, none⟩))] [fun _ v => v = .pointer (some ⟨S_b, 0, none⟩), fun _ v => v = .pointer (some ⟨S_b, 0, none⟩), fun _ v => v = .pointer (some ⟨S_b, 1, none⟩), fun _ v => v = .pointer (some ⟨S_b, 3, none⟩), fun _ v => v = .pointer (some ⟨S_b, 3, none⟩), fun _ v => v = .int .i64 (S.g1), fun _ v => v = .pointer (some ⟨S_b, 0, none⟩), fun _ v => v = .pointer (some ⟨S_b, 0, none⟩), fun _ v => v = .pointer (some ⟨S_b, 1, none⟩), fun _ v => v = .pointer (some ⟨S_b, 1, none⟩), fun _ v => v = .pointer (some ⟨S_b, 1, none⟩), fun _ v => v = .int .i64 (S.g0)] hS (by kernel_rfl) (by kernel_rfl) (MonoFs.pure (MonoFs.pure (MonoFs.pure (MonoFs.pure (MonoFs.pure (MonoFs.pure (MonoFs.pure (MonoFs.pure (MonoFs.pure (MonoFs.pure (MonoFs.pure (MonoFs.pure MonoFs.nil)))))))))))) ⟨rfl, trivial⟩ ⟨?_, ?_, ?_, ?_, ?_, ?_, ?_, ?_, ?_, ?_, ?_, ?_, trivial⟩ ?_
  · intro r_ w50 h51 hl52 hS49 hb_ hp_
    obtain ⟨b0_, _⟩ := hb_
    refine WL.val1 (R_move (v := .pointer (some ⟨S_b, 0, none⟩)) b0_) ?_
    refine WL.nil ?_
    exact ⟨rfl, _, _, rfl, (Hp.le_refl _), rfl, hS49⟩
  · intro r_ w54 h55 hl56 hS53 hb_ hp_
    obtain ⟨b0_, _⟩ := hb_
    obtain ⟨p0_, _⟩ := hp_
    have p0_ : r_ 3 = .pointer (some ⟨S_b, 0, none⟩) := p0_
    refine WL.val1 (R_nilCheck p0_) ?_
    refine WL.nil ?_
    exact ⟨rfl, _, _, rfl, (Hp.le_refl _), rfl, hS53⟩
  · intro r_ w58 h59 hl60 hS57 hb_ hp_
    obtain ⟨b0_, _⟩ := hb_
    obtain ⟨p0_, _⟩ := hp_
    have p0_ : r_ 4 = .pointer (some ⟨S_b, 0, none⟩) := p0_
    refine WL.val1 (R_fieldAddr (b := S_b) (off := 0) (m := 1) p0_ (fun _ => by kernel_rfl)) ?_
    refine WL.nil ?_
    exact ⟨rfl, _, _, rfl, (Hp.le_refl _), rfl, hS57⟩
  · intro r_ w62 h63 hl64 hS61 hb_ hp_
    obtain ⟨b0_, _⟩ := hb_
    obtain ⟨p0_, _⟩ := hp_
    have p0_ : r_ 5 = .pointer (some ⟨S_b, 1, none⟩) := p0_
    refine WL.val1 (R_indexArr (b := S_b) (o := 1) (i := 1) (m := 1) p0_ rfl Tryz.underlying58 (Tryz.sizeOf57 _) rfl (by decide)) ?_
    refine WL.nil ?_
    exact ⟨rfl, _, _, rfl, (Hp.le_refl _), rfl, hS61⟩
  · intro r_ w66 h67 hl68 hS65 hb_ hp_
    obtain ⟨b0_, _⟩ := hb_
    obtain ⟨p0_, _⟩ := hp_
    have p0_ : r_ 6 = .pointer (some ⟨S_b, 3, none⟩) := p0_
    refine WL.val1 (R_fieldAddr (b := S_b) (off := 3) (m := 0) p0_ (fun _ => by kernel_rfl)) ?_
    refine WL.nil ?_
    exact ⟨rfl, _, _, rfl, (Hp.le_refl _), rfl, hS65⟩
  · intro r_ w70 h71 hl72 hS69 hb_ hp_
    obtain ⟨b0_, _⟩ := hb_
    obtain ⟨p0_, _⟩ := hp_
    have p0_ : r_ 7 = .pointer (some ⟨S_b, 3, none⟩) := p0_
    refine WL.val1 (R_load (v := .int .i64 (S.g1)) p0_ (hS69.has (i := 0) rfl) (Tryz.isAgg3 _) rfl) ?_
    refine WL.nil ?_
    exact ⟨rfl, _, _, rfl, (Hp.le_refl _), rfl, hS69⟩
  · intro r_ w74 h75 hl76 hS73 hb_ hp_
    obtain ⟨b0_, _⟩ := hb_
    refine WL.val1 (R_move (v := .pointer (some ⟨S_b, 0, none⟩)) b0_) ?_
    refine WL.nil ?_
    exact ⟨rfl, _, _, rfl, (Hp.le_refl _), rfl, hS73⟩
  · intro r_ w78 h79 hl80 hS77 hb_ hp_
    obtain ⟨b0_, _⟩ := hb_
    obtain ⟨p0_, _⟩ := hp_
    have p0_ : r_ 9 = .pointer (some ⟨S_b, 0, none⟩) := p0_
    refine WL.val1 (R_nilCheck p0_) ?_
    refine WL.nil ?_
    exact ⟨rfl, _, _, rfl, (Hp.le_refl _), rfl, hS77⟩
  · intro r_ w82 h83 hl84 hS81 hb_ hp_
    obtain ⟨b0_, _⟩ := hb_
    obtain ⟨p0_, _⟩ := hp_
    have p0_ : r_ 10 = .pointer (some ⟨S_b, 0, none⟩) := p0_
    refine WL.val1 (R_fieldAddr (b := S_b) (off := 0) (m := 1) p0_ (fun _ => by kernel_rfl)) ?_
    refine WL.nil ?_
    exact ⟨rfl, _, _, rfl, (Hp.le_refl _), rfl, hS81⟩
  · intro r_ w86 h87 hl88 hS85 hb_ hp_
    obtain ⟨b0_, _⟩ := hb_
    obtain ⟨p0_, _⟩ := hp_
    have p0_ : r_ 11 = .pointer (some ⟨S_b, 1, none⟩) := p0_
    refine WL.val1 (R_indexArr (b := S_b) (o := 1) (i := 0) (m := 0) p0_ rfl Tryz.underlying58 (Tryz.sizeOf57 _) rfl (by decide)) ?_
    refine WL.nil ?_
    exact ⟨rfl, _, _, rfl, (Hp.le_refl _), rfl, hS85⟩
  · intro r_ w90 h91 hl92 hS89 hb_ hp_
    obtain ⟨b0_, _⟩ := hb_
    obtain ⟨p0_, _⟩ := hp_
    have p0_ : r_ 12 = .pointer (some ⟨S_b, 1, none⟩) := p0_
    refine WL.val1 (R_fieldAddr (b := S_b) (off := 1) (m := 0) p0_ (fun _ => by kernel_rfl)) ?_
    refine WL.nil ?_
    exact ⟨rfl, _, _, rfl, (Hp.le_refl _), rfl, hS89⟩
  · intro r_ w94 h95 hl96 hS93 hb_ hp_
    obtain ⟨b0_, _⟩ := hb_
    obtain ⟨p0_, _⟩ := hp_
    have p0_ : r_ 13 = .pointer (some ⟨S_b, 1, none⟩) := p0_
    refine WL.val1 (R_load (v := .int .i64 (S.g0)) p0_ (hS93.has (i := 0) rfl) (Tryz.isAgg3 _) rfl) ?_
    refine WL.nil ?_
    exact ⟨rfl, _, _, rfl, (Hp.le_refl _), rfl, hS93⟩
  · intro r_ w98 h99 hl100 hS97 hb_ hf_
    obtain ⟨b0_, _⟩ := hb_
    have q5_ := AF.get hf_ 5 (d := 8) rfl rfl
    have q11_ := AF.get hf_ 11 (d := 14) rfl rfl
    refine WL.frame [(0, .pointer (some ⟨S_b, 0, none⟩)), (8, .int .i64 (S.g1)), (14, .int .i64 (S.g0))] ⟨b0_, q5_, q11_, trivial⟩ (fun r_ => ?_)
    refine WL.val1 (R_gtr (a := S.g1) (b := S.g0) rfl rfl) ?_
    refine WL.nil ?_
    refine then_normal ?_
    refine WC.condP (S.g0 < S.g1) rfl (fun c0 => ?_) (fun c0 => ?_)
    · skip
      refine WC.seq ?_
      refine WC.region ?_
      refine WL.val1 (R_assign (v := .int .i64 (1)) rfl) ?_
      refine WL.nil ?_
      refine then_normal ?_
      refine WC.ret ?_
      refine then_ret ?_
      refine top_ret (.int .i64 (1)) (gives1 rfl rfl) ?_
      exact ⟨[row (S_b) [.pointer (some ⟨D_b, 0, none⟩), .int .i64 (S.g0), .int .i64 (S.z0), .int .i64 (S.g1), .int .i64 (S.z1), .slice (S_files_a) (S.files).length (S_files_c)] 60, grow 29 RFile h (S.files) (S_files_a) (S_files_c), row (D_b) [.bool (D.is), .int .i64 (D.left), .int .i64 (D.n), .map (some (D_held_b)), .slice (D_pend_a) (D.pend).length (D_pend_c)] 78, mpG Mwr (D_held_b) (D.held) (D_held_k), grow 80 RWr h (D.pend) (D_pend_a) (D_pend_c)], ⟨(by rw [nowS, if_pos c0]), (by first | rfl | (rw [e_]; done) | (rw [e_]; rfl))⟩, (hS97.weaken_h hl100)⟩
    · skip
      refine WC.skip ?_
      refine then_normal ?_
      refine WC.seq ?_
      refine WC.region ?_
      refine WL.val1 (R_assign (v := .int .i64 (0)) rfl) ?_
      refine WL.nil ?_
      refine then_normal ?_
      refine WC.ret ?_
      refine top_ret (.int .i64 (0)) (gives1 rfl rfl) ?_
      exact ⟨[row (S_b) [.pointer (some ⟨D_b, 0, none⟩), .int .i64 (S.g0), .int .i64 (S.z0), .int .i64 (S.g1), .int .i64 (S.z1), .slice (S_files_a) (S.files).length (S_files_c)] 60, grow 29 RFile h (S.files) (S_files_a) (S_files_c), row (D_b) [.bool (D.is), .int .i64 (D.left), .int .i64 (D.n), .map (some (D_held_b)), .slice (D_pend_a) (D.pend).length (D_pend_c)] 78, mpG Mwr (D_held_b) (D.held) (D_held_k), grow 80 RWr h (D.pend) (D_pend_a) (D_pend_c)], ⟨(by rw [nowS, if_neg c0]), (by first | rfl | (rw [e_]; done) | (rw [e_]; rfl))⟩, (hS97.weaken_h hl100)⟩
set_option maxHeartbeats 400000 in
theorem store_text (x : Hd) (hx : 0 ≤ x.gen ∧ x.gen ≤ 1000000 ∧ 0 ≤ x.size ∧ x.size ≤ 1000000) : PureC GG Tryz.prog 31 (fun _ => True) [.agg #[.int .i64 (x.gen), .int .i64 (x.size)]] (.string (B ((hdText x.gen x.size)))) := by
  intro Γ h L w hpre hS
  have h1 := itoa_len x.gen (by omega)
  have h2 := itoa_len x.size (by omega)
  have h3 := putS_len (Lib.itoa x.gen) (by omega)
  have h4 := putS_len (Lib.itoa x.size) (by omega)
  refine Ret.body Tryz.func31 rfl Tryz.ntmps31 (Nat.le_of_ble_eq_true rfl) ?_
  refine WC.seq ?_
  refine WC.region ?_
  refine S_box (l := [.int .i64 (x.gen), .int .i64 (x.size)]) (v := .agg #[.int .i64 (x.gen), .int .i64 (x.size)]) hS rfl rfl ?_
  intro w2 hS1
  refine WL.val1 (R_assign (v := .string (B (([] : Str)))) rfl) ?_
  refine WL.nil ?_
  refine then_normal ?_
  refine WC.seq ?_
  refine WC.draw 6 [(1, .pointer (some ⟨w.heap.size, 0, none⟩)), (2, .string (B (([] : Str))))] [fun _ v => v = .pointer (some ⟨w.heap.size, 0, none⟩), fun _ v => v = .int .i64 (x.gen), fun _ v => v = .string (B ((Lib.itoa x.gen))), fun _ v => v = .string (B (putS ((Lib.itoa x.gen)))), fun _ v => v = .pointer (some ⟨w.heap.size, 1, none⟩), fun _ v => v = .int .i64 (x.size)] hS1 (by kernel_rfl) (by kernel_rfl) (MonoFs.pure (MonoFs.pure (MonoFs.pure (MonoFs.pure (MonoFs.pure (MonoFs.pure MonoFs.nil)))))) ⟨rfl, rfl, trivial⟩ ⟨?_, ?_, ?_, ?_, ?_, ?_, trivial⟩ ?_
  · intro r_ w32 h33 hl34 hS31 hb_ hp_
    obtain ⟨b0_, b1_, _⟩ := hb_
    refine WL.val1 (R_fieldAddr (b := w.heap.size) (off := 0) (m := 0) b0_ (fun _ => by kernel_rfl)) ?_
    refine WL.nil ?_
    exact ⟨rfl, _, _, rfl, (Hp.le_refl _), rfl, hS31⟩
  · intro r_ w36 h37 hl38 hS35 hb_ hp_
    obtain ⟨b0_, b1_, _⟩ := hb_
    obtain ⟨p0_, _⟩ := hp_
    have p0_ : r_ 3 = .pointer (some ⟨w.heap.size, 0, none⟩) := p0_
    refine WL.val1 (R_load (v := .int .i64 (x.gen)) p0_ (hS35.has (i := 0) rfl) (Tryz.isAgg3 _) rfl) ?_
    refine WL.nil ?_
    exact ⟨rfl, _, _, rfl, (Hp.le_refl _), rfl, hS35⟩
  · intro r_ w40 h41 hl42 hS39 hb_ hp_
    obtain ⟨b0_, b1_, _⟩ := hb_
    obtain ⟨p0_, _⟩ := hp_
    have p0_ : r_ 4 = .int .i64 (x.gen) := p0_
    refine S_callP (vs := [.int .i64 (x.gen)]) hS39 Tryz.call49 (hmap1 p0_) (lib_Itoa (x.gen) (by first | assumption | omega) (by first | assumption | omega)) trivial ?_
    intro w44 hS43
    refine WL.nil ?_
    exact ⟨rfl, _, _, rfl, (Hp.le_refl _), rfl, hS43⟩
  · intro r_ w46 h47 hl48 hS45 hb_ hp_
    obtain ⟨b0_, b1_, _⟩ := hb_
    obtain ⟨p0_, p1_, _⟩ := hp_
    have p0_ : r_ 5 = .string (B ((Lib.itoa x.gen))) := p0_
    have p1_ : r_ 5 = .string (B ((Lib.itoa x.gen))) := p1_
    refine S_callP (vs := [.string (B ((Lib.itoa x.gen)))]) hS45 Tryz.call46 (hmap1 p1_) (wire_Put ((Lib.itoa x.gen)) (by first | assumption | omega)) trivial ?_
    intro w50 hS49
    refine WL.nil ?_
    exact ⟨rfl, _, _, rfl, (Hp.le_refl _), rfl, hS49⟩
  · intro r_ w52 h53 hl54 hS51 hb_ hp_
    obtain ⟨b0_, b1_, _⟩ := hb_
    refine WL.val1 (R_fieldAddr (b := w.heap.size) (off := 0) (m := 1) b0_ (fun _ => by kernel_rfl)) ?_
    refine WL.nil ?_
    exact ⟨rfl, _, _, rfl, (Hp.le_refl _), rfl, hS51⟩
  · intro r_ w56 h57 hl58 hS55 hb_ hp_
    obtain ⟨b0_, b1_, _⟩ := hb_
    obtain ⟨p0_, _⟩ := hp_
    have p0_ : r_ 7 = .pointer (some ⟨w.heap.size, 1, none⟩) := p0_
    refine WL.val1 (R_load (v := .int .i64 (x.size)) p0_ (hS55.has (i := 0) rfl) (Tryz.isAgg3 _) rfl) ?_
    refine WL.nil ?_
    exact ⟨rfl, _, _, rfl, (Hp.le_refl _), rfl, hS55⟩
  · intro r_ w60 h61 hl62 hS59 hb_ hf_
    obtain ⟨b0_, b1_, _⟩ := hb_
    have q3_ := AF.get hf_ 3 (d := 6) rfl rfl
    have q5_ := AF.get hf_ 5 (d := 8) rfl rfl
    refine WL.frame [(1, .pointer (some ⟨w.heap.size, 0, none⟩)), (2, .string (B (([] : Str)))), (6, .string (B (putS ((Lib.itoa x.gen))))), (8, .int .i64 (x.size))] ⟨b0_, b1_, q3_, q5_, trivial⟩ (fun r_ => ?_)
    refine S_callP (vs := [.int .i64 (x.size)]) hS59 Tryz.call49 rfl (lib_Itoa (x.size) (by first | assumption | omega) (by first | assumption | omega)) trivial ?_
    intro w64 hS63
    refine S_callP (vs := [.string (B ((Lib.itoa x.size)))]) hS63 Tryz.call46 rfl (wire_Put ((Lib.itoa x.size)) (by first | assumption | omega)) trivial ?_
    intro w66 hS65
    refine WL.val1 (R_sadd (a := putS ((Lib.itoa x.gen))) (b := putS ((Lib.itoa x.size))) rfl rfl (by (try simp only [List.length_append, List.length_cons, List.length_nil]); omega)) ?_
    refine WL.val1 (R_assign (v := .string (B ((putS ((Lib.itoa x.gen)) ++ putS ((Lib.itoa x.size)))))) rfl) ?_
    refine WL.nil ?_
    refine then_normal ?_
    refine WC.ret ?_
    refine top_ret (.string (B ((putS ((Lib.itoa x.gen)) ++ putS ((Lib.itoa x.size)))))) (gives1 rfl rfl) ?_
    exact ⟨(by first | rfl | (simp; done)), (hS65.pop.weaken_h hl62)⟩
set_option maxHeartbeats 400000 in
theorem store_read (s : Str) (g : Int) (z : Int) (hh : HdAt s g z) : PureC GG Tryz.prog 39 (fun _ => True) [.string (B (s))] (.agg #[.int .i64 (g), .int .i64 (z)]) := by
  intro Γ h L w hpre hS
  have ha := all_head hh
  have hs_ := hh.len
  refine Ret.body Tryz.func39 rfl Tryz.ntmps39 (Nat.le_of_ble_eq_true rfl) ?_
  refine WC.seq ?_
  refine WC.region ?_
  refine S_alloc hS Tryz.zeroValue57 ?_
  intro w2 hS1
  refine WL.nil ?_
  refine then_normal ?_
  refine WC.seq ?_
  refine WC.region ?_
  refine WL.val1 (R_move (v := .string (B (s))) rfl) ?_
  refine S_callF (vs := [.string (B (s))]) hS1 Tryz.call54 rfl (wire_All (s) (by first | assumption | omega)) trivial ?_
  intro h5 v7 w4 hl6 hp8 hS3
  obtain ⟨a9, c10, rfl, hf11⟩ := hp8
  refine WL.val1 (R_move (v := .tuple #[.slice (a9) ((allS s).1).length (c10), .int .i64 ((allS s).2)]) rfl) ?_
  refine WL.val1 (R_extract (vs := ([.slice (a9) ((allS s).1).length (c10), .int .i64 ((allS s).2)] : List Value).toArray) (v := .slice (a9) ((allS s).1).length (c10)) rfl rfl) ?_
  refine WL.val1 (R_extract (vs := ([.slice (a9) ((allS s).1).length (c10), .int .i64 ((allS s).2)] : List Value).toArray) (v := .int .i64 ((allS s).2)) rfl rfl) ?_
  refine WL.val1 (R_assign (v := .slice (a9) ((allS s).1).length (c10)) rfl) ?_
  refine WL.val1 (R_assign (v := .int .i64 ((allS s).2)) rfl) ?_
  refine WL.nil ?_
  refine then_normal ?_
  refine WC.seq ?_
  refine WC.seq ?_
  refine WC.region ?_
  refine WL.val1 (R_move (v := .int .i64 ((allS s).2)) rfl) ?_
  refine WL.val1 (R_neq (a := (allS s).2) (b := 0) rfl rfl) ?_
  refine WL.val1 (R_move (v := .bool (decide ((allS s).2 ≠ 0))) rfl) ?_
  refine WL.gpure (gd := (!(decide ((allS s).2 ≠ 0)))) (yl_f (d := 16) rfl rfl) (fun hg => R_move (v := .slice (a9) ((allS s).1).length (c10)) rfl) ?_
  refine WL.gpure (gd := (!(decide ((allS s).2 ≠ 0)))) (yl_f (d := 16) rfl rfl) (fun hg => R_len_slice (n := ((allS s).1).length) (gvT hg rfl) Tryz.underlying102) ?_
  refine WL.gpure (gd := (!(decide ((allS s).2 ≠ 0)))) (yl_f (d := 16) rfl rfl) (fun hg => R_neq (a := ((((allS s).1).length : Nat) : Int)) (b := 2) (gvT hg rfl) rfl) ?_
  refine WL.val1 (R_or (cb := decide ((allS s).2 ≠ 0)) (yb := decide (((((allS s).1).length : Nat) : Int) ≠ 2)) rfl rfl rfl) ?_
  refine WL.nil ?_
  refine then_normal ?_
  refine WC.condI (((allS s).2 ≠ 0 ∨ ((((allS s).1).length : Nat) : Int) ≠ 2)) (b := (decide ((allS s).2 ≠ 0) || decide (((((allS s).1).length : Nat) : Int) ≠ 2))) rfl (b_or b_dec b_dec) (fun c0 => ?_) (fun c0 => ?_)
  · skip
    refine WC.seq ?_
    refine WC.region ?_
    refine WL.val1 (R_build (vs := []) (v := .agg #[.int .i64 (0), .int .i64 (0)]) rfl (fun _ => by kernel_rfl)) ?_
    refine S_store (i := 0) (b := w.heap.size) (l := [.int .i64 (0), .int .i64 (0)]) (l' := [.int .i64 (0), .int .i64 (0)]) (vs := [.int .i64 (0), .int .i64 (0)]) (v := .agg #[.int .i64 (0), .int .i64 (0)]) hS3 rfl rfl rfl Tryz.sizeOf57 rfl rfl rfl (Nat.le_of_ble_eq_true rfl) rfl rfl ?_
    intro w13 hS12
    refine WL.nil ?_
    refine then_normal ?_
    refine WC.ret ?_
    refine then_ret ?_
    refine top_ret (.agg #[.int .i64 (0), .int .i64 (0)]) (givesL1 (vs := [.agg #[.int .i64 (0), .int .i64 (0)]]) rfl ⟨⟨w.heap.size, 0, rfl, loadVarA (cs := [.int .i64 (0), .int .i64 (0)]) (hS12.has (i := 0) rfl) (Tryz.isAgg57 _) (Tryz.sizeOf57 _) rfl (sub_cells rfl)⟩, trivial⟩ rfl) ?_
    exact ⟨(by obtain ⟨h1, h2⟩ := head_out ha c0; subst h1; subst h2; rfl), (hS12.pop.weaken_h hl6)⟩
  · skip
    have hb := head_in ha (by simpa using c0)
    have hlen : (allS s).1.length = 2 := by have := c0; omega
    refine WC.skip ?_
    refine then_normal ?_
    refine WC.seq ?_
    refine WC.region ?_
    refine WL.val1 (R_move (v := .slice (a9) ((allS s).1).length (c10)) rfl) ?_
    obtain ⟨z_allS_s_1_0, hz_allS_s_1_0⟩ : ∃ z, ((allS s).1)[0]? = some z := ⟨_, List.getElem?_eq_getElem (by omega)⟩
    obtain ⟨b14, o15, cs19, ha16, hr17, hat18⟩ := hf11.2 0 z_allS_s_1_0 hz_allS_s_1_0
    subst hr17
    refine WL.val1 (R_indexAddrE (i := 0) (m := 0) ha16 rfl rfl Tryz.underlying102 (Tryz.sizeOf9 _) (by first | rfl | (omega)) (by omega)) ?_
    refine WL.val1 (R_loadC (v := .string (B (z_allS_s_1_0))) hS3 rfl hat18 Tryz.isAgg9 rfl) ?_
    refine S_callP (vs := [.string (B (z_allS_s_1_0))]) hS3 Tryz.call55 rfl (lib_Atoi (z_allS_s_1_0) (g) (head_0 hb hz_allS_s_1_0) (by omega)) trivial ?_
    intro w21 hS20
    refine WL.val1 (R_move (v := .tuple #[.int .i64 (g), .nilIface]) rfl) ?_
    refine WL.val1 (R_extract (vs := ([.int .i64 (g), .nilIface] : List Value).toArray) (v := .int .i64 (g)) rfl rfl) ?_
    refine WL.val1 (R_extract (vs := ([.int .i64 (g), .nilIface] : List Value).toArray) (v := .nilIface) rfl rfl) ?_
    refine WL.val1 (R_assign (v := .int .i64 (g)) rfl) ?_
    refine WL.val1 (R_assign (v := .nilIface) rfl) ?_
    refine WL.nil ?_
    refine then_normal ?_
    refine WC.seq ?_
    refine WC.region ?_
    refine WL.val1 (R_move (v := .slice (a9) ((allS s).1).length (c10)) rfl) ?_
    obtain ⟨z_allS_s_1_1, hz_allS_s_1_1⟩ : ∃ z, ((allS s).1)[1]? = some z := ⟨_, List.getElem?_eq_getElem (by omega)⟩
    obtain ⟨b22, o23, cs27, ha24, hr25, hat26⟩ := hf11.2 1 z_allS_s_1_1 hz_allS_s_1_1
    subst hr25
    refine WL.val1 (R_indexAddrE (i := 1) (m := 1) ha24 rfl rfl Tryz.underlying102 (Tryz.sizeOf9 _) (by first | rfl | (omega)) (by omega)) ?_
    refine WL.val1 (R_loadC (v := .string (B (z_allS_s_1_1))) hS20 rfl hat26 Tryz.isAgg9 rfl) ?_
    refine S_callP (vs := [.string (B (z_allS_s_1_1))]) hS20 Tryz.call55 rfl (lib_Atoi (z_allS_s_1_1) (z) (head_1 hb hz_allS_s_1_1) (by omega)) trivial ?_
    intro w29 hS28
    refine WL.val1 (R_move (v := .tuple #[.int .i64 (z), .nilIface]) rfl) ?_
    refine WL.val1 (R_extract (vs := ([.int .i64 (z), .nilIface] : List Value).toArray) (v := .int .i64 (z)) rfl rfl) ?_
    refine WL.val1 (R_extract (vs := ([.int .i64 (z), .nilIface] : List Value).toArray) (v := .nilIface) rfl rfl) ?_
    refine WL.val1 (R_assign (v := .int .i64 (z)) rfl) ?_
    refine WL.val1 (R_assign (v := .nilIface) rfl) ?_
    refine WL.nil ?_
    refine then_normal ?_
    refine WC.seq ?_
    refine WC.region ?_
    refine WL.val1 (R_move (v := .int .i64 (g)) rfl) ?_
    refine WL.val1 (R_move (v := .int .i64 (z)) rfl) ?_
    refine WL.val1 (R_build (vs := [(0, .int .i64 (g)), (1, .int .i64 (z))]) (v := .agg #[.int .i64 (g), .int .i64 (z)]) rfl (fun _ => by kernel_rfl)) ?_
    refine S_store (i := 0) (b := w.heap.size) (l := [.int .i64 (0), .int .i64 (0)]) (l' := [.int .i64 (g), .int .i64 (z)]) (vs := [.int .i64 (g), .int .i64 (z)]) (v := .agg #[.int .i64 (g), .int .i64 (z)]) hS28 rfl rfl rfl Tryz.sizeOf57 rfl rfl rfl (Nat.le_of_ble_eq_true rfl) rfl rfl ?_
    intro w31 hS30
    refine WL.nil ?_
    refine then_normal ?_
    refine WC.ret ?_
    refine top_ret (.agg #[.int .i64 (g), .int .i64 (z)]) (givesL1 (vs := [.agg #[.int .i64 (g), .int .i64 (z)]]) rfl ⟨⟨w.heap.size, 0, rfl, loadVarA (cs := [.int .i64 (g), .int .i64 (z)]) (hS30.has (i := 0) rfl) (Tryz.isAgg57 _) (Tryz.sizeOf57 _) rfl (sub_cells rfl)⟩, trivial⟩ rfl) ?_
    exact ⟨(by first | rfl | (simp; done)), (hS30.pop.weaken_h hl6)⟩
set_option maxHeartbeats 400000 in
theorem bld_Len (t_b : Nat) (p : Value) (l : List UInt8) (l_a : Option Addr) (l_c : Nat)  : MutL GG Tryz.prog 40 (fun _ => True) [.pointer (some ⟨t_b, 0, none⟩)] (fun h => [row (t_b) [p, .slice (l_a) (l).length (l_c)] 88, grow 5 Rby h (l) (l_a) (l_c)]) (fun h A v => v = .int .i64 (((l.length : Nat) : Int)) ∧ A = [row (t_b) [p, .slice (l_a) (l).length (l_c)] 88, grow 5 Rby h (l) (l_a) (l_c)]) := by
  intro Γ h L w hpre hS
  refine Ret.body Tryz.func40 rfl Tryz.ntmps40 (Nat.le_of_ble_eq_true rfl) ?_
  have hS : St Γ h (row (t_b) [p, .slice (l_a) (l).length (l_c)] 88 :: grow 5 Rby h (l) (l_a) (l_c) :: L) w := hS
  refine WC.seq ?_
  refine WC.region ?_
  refine WL.val1 (R_assign (v := .int .i64 (0)) rfl) ?_
  refine WL.nil ?_
  refine then_normal ?_
  refine WC.seq ?_
  refine WC.region ?_
  refine WL.val1 (R_move (v := .pointer (some ⟨t_b, 0, none⟩)) rfl) ?_
  refine WL.val1 (R_nilCheck rfl) ?_
  refine WL.val1 (R_fieldAddr (b := t_b) (off := 0) (m := 1) rfl (fun _ => by kernel_rfl)) ?_
  refine WL.val1 (R_load (v := .slice (l_a) (l).length (l_c)) rfl (hS.has (i := 0) rfl) (Tryz.isAgg86 _) rfl) ?_
  refine WL.val1 (R_len_slice (n := (l).length) rfl Tryz.underlying86) ?_
  refine WL.val1 (R_assign (v := .int .i64 ((((l).length : Nat) : Int))) rfl) ?_
  refine WL.nil ?_
  refine then_normal ?_
  refine WC.ret ?_
  refine top_ret (.int .i64 ((((l).length : Nat) : Int))) (gives1 rfl rfl) ?_
  exact ⟨h, [row (t_b) [p, .slice (l_a) (l).length (l_c)] 88, grow 5 Rby h (l) (l_a) (l_c)], (Hp.le_refl _), ⟨(by first | rfl | (simp; done)), (by first | rfl | (rw [e_]; done) | (rw [e_]; rfl))⟩, hS⟩
set_option maxHeartbeats 400000 in
theorem store_must (e : Int)  : MutX GG Tryz.prog 29 (fun _ => True) [.int .i64 (e)] (fun h => []) (fun h A v => v = .tuple #[] ∧ A = [] ∧ (e = 0)) (fun h A c => c = [{ v := .iface 63 (.agg #[.int .i64 (e)]), recovered := false }] ∧ A = [] ∧ (e ≠ 0)) := by
  intro Γ h L w hpre hS
  refine RetX.body Tryz.func29 rfl Tryz.ntmps29 (Nat.le_of_ble_eq_true rfl) ?_
  have hS : St Γ h (L) w := hS
  refine WC.seq ?_
  refine WC.region ?_
  refine WL.val1 (R_move (v := .int .i64 (e)) rfl) ?_
  refine WL.val1 (R_neq (a := e) (b := 0) rfl rfl) ?_
  refine WL.nil ?_
  refine then_normal ?_
  refine WC.condP (e ≠ 0) rfl (fun c0 => ?_) (fun c0 => ?_)
  · skip
    refine WC.region ?_
    refine WL.val1 (R_move (v := .int .i64 (e)) rfl) ?_
    refine WL.val1 (R_build (vs := [(0, .int .i64 (e))]) (v := .agg #[.int .i64 (e)]) rfl (fun _ => by kernel_rfl)) ?_
    refine WL.val1 (R_makeInterface (v := .agg #[.int .i64 (e)]) rfl (fun _ => by kernel_rfl)) ?_
    refine S_panic (t := 63) (v := .agg #[.int .i64 (e)]) rfl ?_
    refine topX_panic ?_
    exact ⟨[], ⟨(by first | rfl | (rw [e_]; done) | (rw [e_]; rfl)), (by first | rfl | (rw [e_]; done) | (rw [e_]; rfl)), (by first | assumption | omega)⟩, hS⟩
  · skip
    refine WC.skip ?_
    refine topX_normal (.tuple #[]) (gives0 rfl) ?_
    exact ⟨[], ⟨(by first | rfl | (simp; done)), (by first | rfl | (rw [e_]; done) | (rw [e_]; rfl)), (by first | assumption | omega)⟩, hS⟩
end Go.Stet
