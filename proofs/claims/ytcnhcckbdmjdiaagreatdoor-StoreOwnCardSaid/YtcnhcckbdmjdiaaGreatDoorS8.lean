/- What the layers compute, in plain Lean, and laws about that. Each under the conditions that its own statement names. -/
import Derived.Test.YtcnhcckbdmjdiaaGreatDoorSeatS3
import Derived.Test.YtcnhcckbdmjdiaaGreatDoorBldS
import Derived.Test.YtcnhcckbdmjdiaaGreatDoorEng18
import Derived.Test.YtcnhcckbdmjdiaaGreatDoorSpecS1
import Derived.Test.YtcnhcckbdmjdiaaGreatDoorSRec
import Derived.Test.YtcnhcckbdmjdiaaGreatDoorS7
set_option linter.all false
set_option linter.unusedSimpArgs false
set_option linter.unusedVariables false
namespace Go.Stet
open Go Go.Eng Go.Proofs
set_option maxHeartbeats 400000 in
theorem store_lay (S : Sto) (S_b : Nat) (S_files_a : Option Addr) (S_files_c : Nat) (D : Dsk) (D_b : Nat) (D_held_b D_held_k : Nat) (D_pend_a : Option Addr) (D_pend_c : Nat) (at_ : Int) (t : Str) (ha : at_ = 0 ∨ at_ = 1) (hn : 4 ≤ D.n ∧ D.n ≤ 4096) (ht : t.length ≤ 200000) (hp : D.pend.length ≤ 1000) : MutX GG Tryz.prog 28 (fun _ => True) [.pointer (some ⟨S_b, 0, none⟩), .int .i64 (at_), .string (B (t))] (fun h => [row (S_b) [.pointer (some ⟨D_b, 0, none⟩), .int .i64 (S.g0), .int .i64 (S.z0), .int .i64 (S.g1), .int .i64 (S.z1), .slice (S_files_a) (S.files).length (S_files_c)] 60, grow 29 RFile h (S.files) (S_files_a) (S_files_c), row (D_b) [.bool (D.is), .int .i64 (D.left), .int .i64 (D.n), .map (some (D_held_b)), .slice (D_pend_a) (D.pend).length (D_pend_c)] 78, mpG Mwr (D_held_b) (D.held) (D_held_k), grow 80 RWr h (D.pend) (D_pend_a) (D_pend_c)]) (fun h A v => ∃ (D_held_k1 : Nat) (D_pend_a1 : Option Addr) (D_pend_c1 : Nat), v = .tuple #[] ∧ A = [row (S_b) [.pointer (some ⟨D_b, 0, none⟩), .int .i64 (S.g0), .int .i64 (S.z0), .int .i64 (S.g1), .int .i64 (S.z1), .slice (S_files_a) (S.files).length (S_files_c)] 60, grow 29 RFile h (S.files) (S_files_a) (S_files_c), row (D_b) [.bool (((layS D at_ t).1).is), .int .i64 (((layS D at_ t).1).left), .int .i64 (((layS D at_ t).1).n), .map (some (D_held_b)), .slice (D_pend_a1) (((layS D at_ t).1).pend).length (D_pend_c1)] 78, mpG Mwr (D_held_b) (((layS D at_ t).1).held) (D_held_k1), grow 80 RWr h (((layS D at_ t).1).pend) (D_pend_a1) (D_pend_c1)] ∧ ((layS D at_ t).2 = 0)) (fun h A c => ∃ (D_held_k1 : Nat) (D_pend_a1 : Option Addr) (D_pend_c1 : Nat), c = [{ v := .iface 63 (.agg #[.int .i64 ((layS D at_ t).2)]), recovered := false }] ∧ A = [row (S_b) [.pointer (some ⟨D_b, 0, none⟩), .int .i64 (S.g0), .int .i64 (S.z0), .int .i64 (S.g1), .int .i64 (S.z1), .slice (S_files_a) (S.files).length (S_files_c)] 60, grow 29 RFile h (S.files) (S_files_a) (S_files_c), row (D_b) [.bool (((layS D at_ t).1).is), .int .i64 (((layS D at_ t).1).left), .int .i64 (((layS D at_ t).1).n), .map (some (D_held_b)), .slice (D_pend_a1) (((layS D at_ t).1).pend).length (D_pend_c1)] 78, mpG Mwr (D_held_b) (((layS D at_ t).1).held) (D_held_k1), grow 80 RWr h (((layS D at_ t).1).pend) (D_pend_a1) (D_pend_c1)] ∧ ((layS D at_ t).2 ≠ 0)) := by
  intro Γ h L w hpre hS
  have hm : 0 ≤ at_ * ((D.n - 2) / 2) ∧ at_ * ((D.n - 2) / 2) ≤ 4096 := by rcases ha with rfl | rfl <;> omega
  refine RetX.body Tryz.func28 rfl Tryz.ntmps28 (Nat.le_of_ble_eq_true rfl) ?_
  have hS : St Γ h (row (S_b) [.pointer (some ⟨D_b, 0, none⟩), .int .i64 (S.g0), .int .i64 (S.z0), .int .i64 (S.g1), .int .i64 (S.z1), .slice (S_files_a) (S.files).length (S_files_c)] 60 :: grow 29 RFile h (S.files) (S_files_a) (S_files_c) :: row (D_b) [.bool (D.is), .int .i64 (D.left), .int .i64 (D.n), .map (some (D_held_b)), .slice (D_pend_a) (D.pend).length (D_pend_c)] 78 :: mpG Mwr (D_held_b) (D.held) (D_held_k) :: grow 80 RWr h (D.pend) (D_pend_a) (D_pend_c) :: L) w := hS
  refine WC.seq ?_
  refine WC.region ?_
  refine WL.val1 (R_move (v := .int .i64 (at_)) rfl) ?_
  refine WL.val1 (R_move (v := .pointer (some ⟨S_b, 0, none⟩)) rfl) ?_
  refine WL.val1 (R_nilCheck rfl) ?_
  refine WL.val1 (R_fieldAddr (b := S_b) (off := 0) (m := 0) rfl (fun _ => by kernel_rfl)) ?_
  refine WL.val1 (R_load (v := .pointer (some ⟨D_b, 0, none⟩)) rfl (hS.has (i := 0) rfl) (Tryz.isAgg24 _) rfl) ?_
  have hS3 : St Γ h (row (D_b) [.bool (D.is), .int .i64 (D.left), .int .i64 (D.n), .map (some (D_held_b)), .slice (D_pend_a) (D.pend).length (D_pend_c)] 78 :: mpG Mwr (D_held_b) (D.held) (D_held_k) :: grow 80 RWr h (D.pend) (D_pend_a) (D_pend_c) :: row (S_b) [.pointer (some ⟨D_b, 0, none⟩), .int .i64 (S.g0), .int .i64 (S.z0), .int .i64 (S.g1), .int .i64 (S.z1), .slice (S_files_a) (S.files).length (S_files_c)] 60 :: grow 29 RFile h (S.files) (S_files_a) (S_files_c) :: emp :: emp :: emp :: L) w := (((hS.front (i := 4) rfl).front (i := 4) rfl).front (i := 4) rfl)
  refine S_callH (vs := [.pointer (some ⟨D_b, 0, none⟩)]) (A := fun hh_ => [row (D_b) [.bool (D.is), .int .i64 (D.left), .int .i64 (D.n), .map (some (D_held_b)), .slice (D_pend_a) (D.pend).length (D_pend_c)] 78, mpG Mwr (D_held_b) (D.held) (D_held_k), grow 80 RWr hh_ (D.pend) (D_pend_a) (D_pend_c)]) (L := row (S_b) [.pointer (some ⟨D_b, 0, none⟩), .int .i64 (S.g0), .int .i64 (S.z0), .int .i64 (S.g1), .int .i64 (S.z1), .slice (S_files_a) (S.files).length (S_files_c)] 60 :: grow 29 RFile h (S.files) (S_files_a) (S_files_c) :: emp :: emp :: emp :: L) hS3 Tryz.call25 rfl (disk_Len (D) (D_b) (D_held_b) (D_held_k) (D_pend_a) (D_pend_c)) trivial ?_
  intro A4 v5 w2 hp6 hS1
  obtain ⟨rfl, rfl⟩ := hp6
  have hS1 : St Γ h (row (D_b) [.bool (D.is), .int .i64 (D.left), .int .i64 (D.n), .map (some (D_held_b)), .slice (D_pend_a) (D.pend).length (D_pend_c)] 78 :: mpG Mwr (D_held_b) (D.held) (D_held_k) :: grow 80 RWr h (D.pend) (D_pend_a) (D_pend_c) :: row (S_b) [.pointer (some ⟨D_b, 0, none⟩), .int .i64 (S.g0), .int .i64 (S.z0), .int .i64 (S.g1), .int .i64 (S.z1), .slice (S_files_a) (S.files).length (S_files_c)] 60 :: grow 29 RFile h (S.files) (S_files_a) (S_files_c) :: emp :: emp :: emp :: L) w2 := hS1
  have hS7 : St Γ h (row (S_b) [.pointer (some ⟨D_b, 0, none⟩), .int .i64 (S.g0), .int .i64 (S.z0), .int .i64 (S.g1), .int .i64 (S.z1), .slice (S_files_a) (S.files).length (S_files_c)] 60 :: grow 29 RFile h (S.files) (S_files_a) (S_files_c) :: row (D_b) [.bool (D.is), .int .i64 (D.left), .int .i64 (D.n), .map (some (D_held_b)), .slice (D_pend_a) (D.pend).length (D_pend_c)] 78 :: mpG Mwr (D_held_b) (D.held) (D_held_k) :: grow 80 RWr h (D.pend) (D_pend_a) (D_pend_c) :: L) w2 := (St.back2 (i := 4) (St.back2 (i := 4) (St.back2 (i := 4) hS1 rfl) rfl) rfl)
  refine S_callP (vs := [.int .i64 (D.n)]) hS7 Tryz.call21 rfl (store_half (D.n) (by first | assumption | omega)) trivial ?_
  intro w9 hS8
  refine WL.val1 (R_mul_i (a := at_) (b := ((D.n - 2) / 2)) rfl rfl (by omega)) ?_
  refine WL.val1 (R_add_i (a := 2) (b := (at_ * ((D.n - 2) / 2))) rfl rfl (by omega)) ?_
  refine WL.val1 (R_assign (v := .int .i64 ((2 + (at_ * ((D.n - 2) / 2))))) rfl) ?_
  refine WL.nil ?_
  refine then_normal ?_
  refine WC.seq ?_
  refine WC.seq ?_
  refine WC.region ?_
  refine WL.val1 (R_assign (v := .int .i64 (0)) rfl) ?_
  refine WL.nil ?_
  refine then_normal ?_
  refine WC.block ?_
  refine WC.loopL (σ := Nat × Str × Dsk × Nat × (Option Addr) × Nat)
    (fun (q_ : Nat × Str × Dsk × Nat × (Option Addr) × Nat) => (fun (i : Nat) (u : Str) (E : Dsk) (E_held_k : Nat) (E_pend_a : Option Addr) (E_pend_c : Nat) => [(0, .pointer (some ⟨S_b, 0, none⟩)), (2, .string (B (u))), (6, .int .i64 ((2 + (at_ * ((D.n - 2) / 2))))), (7, .int .i64 (((i : Nat) : Int)))]) (q_.1) (q_.2.1) (q_.2.2.1) (q_.2.2.2.1) (q_.2.2.2.2.1) (q_.2.2.2.2.2))
    (fun (q_ : Nat × Str × Dsk × Nat × (Option Addr) × Nat) (w_ : World) => (fun (i : Nat) (u : Str) (E : Dsk) (E_held_k : Nat) (E_pend_a : Option Addr) (E_pend_c : Nat) => ∃ h12 : Hp, h.le h12 ∧ St Γ h12 (row (S_b) [.pointer (some ⟨D_b, 0, none⟩), .int .i64 (S.g0), .int .i64 (S.z0), .int .i64 (S.g1), .int .i64 (S.z1), .slice (S_files_a) (S.files).length (S_files_c)] 60 :: grow 29 RFile h12 (S.files) (S_files_a) (S_files_c) :: row (D_b) [.bool (E.is), .int .i64 (E.left), .int .i64 (E.n), .map (some (D_held_b)), .slice (E_pend_a) (E.pend).length (E_pend_c)] 78 :: mpG Mwr (D_held_b) (E.held) (E_held_k) :: grow 80 RWr h12 (E.pend) (E_pend_a) (E_pend_c) :: L) w_ ∧ (E.n = D.n ∧ E.pend.length ≤ D.pend.length + i ∧ i + u.length ≤ t.length) ∧ (∃ k : Nat, u.length < k ∧ layF E (2 + at_ * ((D.n - 2) / 2)) k i u = layF D (2 + at_ * ((D.n - 2) / 2)) (t.length + 1) 0 t)) (q_.1) (q_.2.1) (q_.2.2.1) (q_.2.2.2.1) (q_.2.2.2.2.1) (q_.2.2.2.2.2))
    (fun (q_ : Nat × Str × Dsk × Nat × (Option Addr) × Nat) => (fun (i : Nat) (u : Str) (E : Dsk) (E_held_k : Nat) (E_pend_a : Option Addr) (E_pend_c : Nat) => u.length) (q_.1) (q_.2.1) (q_.2.2.1) (q_.2.2.2.1) (q_.2.2.2.2.1) (q_.2.2.2.2.2)) (0, t, D, D_held_k, D_pend_a, D_pend_c) ?_ ?_ ?_
  · exact ⟨rfl, (by first | rfl | (apply congrArg (Value.int .i64); omega) | simp), rfl, (by first | rfl | (apply congrArg (Value.int .i64); omega) | simp), trivial⟩
  · exact ⟨h, Hp.le_refl _, hS8, (by exact ⟨rfl, Nat.le_refl _, Nat.le_of_eq (Nat.zero_add _)⟩), (by exact ⟨t.length + 1, Nat.lt_succ_self _, rfl⟩)⟩
  · rintro ⟨i, u, E, E_held_k, E_pend_a, E_pend_c⟩ r14 w11 ⟨h12, hl13, hS10, f1, f2⟩
    try dsimp only at f1 f2
    obtain ⟨k, hk, f2⟩ := f2
    refine WC.seq ?_
    refine WC.seq ?_
    refine WC.region ?_
    refine WL.val1 (R_move (v := .string (B (u))) rfl) ?_
    refine WL.val1 (R_slen (a := u) rfl Tryz.underlying9) ?_
    refine WL.val1 (R_gtr (a := (((u).length : Nat) : Int)) (b := 0) rfl rfl) ?_
    refine WL.nil ?_
    refine then_normal ?_
    refine WC.condP (0 < (((u).length : Nat) : Int)) rfl (fun c0 => ?_) (fun c0 => ?_)
    · skip
      refine WC.skip ?_
      refine then_normal ?_
      refine WC.seq ?_
      refine WC.block ?_
      refine WC.seq ?_
      refine WC.region ?_
      refine WL.val1 (R_move (v := .string (B (u))) rfl) ?_
      refine WL.val1 (R_slen (a := u) rfl Tryz.underlying9) ?_
      refine WL.val1 (R_min (a := 64) (b := (((u).length : Nat) : Int)) rfl rfl) ?_
      refine WL.val1 (R_assign (v := .int .i64 ((min (64) ((((u).length : Nat) : Int))))) rfl) ?_
      refine WL.nil ?_
      refine then_normal ?_
      refine WC.seq ?_
      refine WC.draw 10 [(0, .pointer (some ⟨S_b, 0, none⟩)), (2, .string (B (u))), (6, .int .i64 ((2 + (at_ * ((D.n - 2) / 2))))), (7, .int .i64 (((i : Nat) : Int))), (8, .int .i64 ((min (64) ((((u).length : Nat) : Int)))))] [fun _ v => v = .pointer (some ⟨S_b, 0, none⟩), fun _ v => v = .pointer (some ⟨S_b, 0, none⟩), fun _ v => v = .pointer (some ⟨S_b, 0, none⟩), fun _ v => v = .pointer (some ⟨D_b, 0, none⟩), fun _ v => v = .int .i64 ((2 + (at_ * ((D.n - 2) / 2)))), fun _ v => v = .int .i64 (((i : Nat) : Int)), fun _ v => v = .int .i64 (((2 + (at_ * ((D.n - 2) / 2))) + ((i : Nat) : Int))), fun _ v => v = .string (B (u)), fun _ v => v = .int .i64 ((min (64) ((((u).length : Nat) : Int)))), fun _ v => v = .string (B ((u.take 64)))] hS10 (by kernel_rfl) (by kernel_rfl) (MonoFs.pure (MonoFs.pure (MonoFs.pure (MonoFs.pure (MonoFs.pure (MonoFs.pure (MonoFs.pure (MonoFs.pure (MonoFs.pure (MonoFs.pure MonoFs.nil)))))))))) ⟨rfl, rfl, rfl, rfl, rfl, trivial⟩ ⟨?_, ?_, ?_, ?_, ?_, ?_, ?_, ?_, ?_, ?_, trivial⟩ ?_
      · intro r_ w56 h57 hl58 hS55 hb_ hp_
        obtain ⟨b0_, b1_, b2_, b3_, b4_, _⟩ := hb_
        refine WL.val1 (R_move (v := .pointer (some ⟨S_b, 0, none⟩)) b0_) ?_
        refine WL.nil ?_
        exact ⟨rfl, _, _, rfl, (Hp.le_refl _), rfl, hS55⟩
      · intro r_ w60 h61 hl62 hS59 hb_ hp_
        obtain ⟨b0_, b1_, b2_, b3_, b4_, _⟩ := hb_
        obtain ⟨p0_, _⟩ := hp_
        have p0_ : r_ 26 = .pointer (some ⟨S_b, 0, none⟩) := p0_
        refine WL.val1 (R_nilCheck p0_) ?_
        refine WL.nil ?_
        exact ⟨rfl, _, _, rfl, (Hp.le_refl _), rfl, hS59⟩
      · intro r_ w64 h65 hl66 hS63 hb_ hp_
        obtain ⟨b0_, b1_, b2_, b3_, b4_, _⟩ := hb_
        obtain ⟨p0_, _⟩ := hp_
        have p0_ : r_ 27 = .pointer (some ⟨S_b, 0, none⟩) := p0_
        refine WL.val1 (R_fieldAddr (b := S_b) (off := 0) (m := 0) p0_ (fun _ => by kernel_rfl)) ?_
        refine WL.nil ?_
        exact ⟨rfl, _, _, rfl, (Hp.le_refl _), rfl, hS63⟩
      · intro r_ w68 h69 hl70 hS67 hb_ hp_
        obtain ⟨b0_, b1_, b2_, b3_, b4_, _⟩ := hb_
        obtain ⟨p0_, _⟩ := hp_
        have p0_ : r_ 28 = .pointer (some ⟨S_b, 0, none⟩) := p0_
        refine WL.val1 (R_load (v := .pointer (some ⟨D_b, 0, none⟩)) p0_ (hS67.has (i := 0) rfl) (Tryz.isAgg24 _) rfl) ?_
        refine WL.nil ?_
        exact ⟨rfl, _, _, rfl, (Hp.le_refl _), rfl, hS67⟩
      · intro r_ w72 h73 hl74 hS71 hb_ hp_
        obtain ⟨b0_, b1_, b2_, b3_, b4_, _⟩ := hb_
        refine WL.val1 (R_move (v := .int .i64 ((2 + (at_ * ((D.n - 2) / 2))))) b2_) ?_
        refine WL.nil ?_
        exact ⟨rfl, _, _, rfl, (Hp.le_refl _), rfl, hS71⟩
      · intro r_ w76 h77 hl78 hS75 hb_ hp_
        obtain ⟨b0_, b1_, b2_, b3_, b4_, _⟩ := hb_
        refine WL.val1 (R_move (v := .int .i64 (((i : Nat) : Int))) b3_) ?_
        refine WL.nil ?_
        exact ⟨rfl, _, _, rfl, (Hp.le_refl _), rfl, hS75⟩
      · intro r_ w80 h81 hl82 hS79 hb_ hp_
        obtain ⟨b0_, b1_, b2_, b3_, b4_, _⟩ := hb_
        obtain ⟨p0_, p1_, _⟩ := hp_
        have p0_ : r_ 30 = .int .i64 ((2 + (at_ * ((D.n - 2) / 2)))) := p0_
        have p1_ : r_ 31 = .int .i64 (((i : Nat) : Int)) := p1_
        refine WL.val1 (R_add_i (a := (2 + (at_ * ((D.n - 2) / 2)))) (b := ((i : Nat) : Int)) p0_ p1_ (by omega)) ?_
        refine WL.nil ?_
        exact ⟨rfl, _, _, rfl, (Hp.le_refl _), rfl, hS79⟩
      · intro r_ w84 h85 hl86 hS83 hb_ hp_
        obtain ⟨b0_, b1_, b2_, b3_, b4_, _⟩ := hb_
        refine WL.val1 (R_move (v := .string (B (u))) b1_) ?_
        refine WL.nil ?_
        exact ⟨rfl, _, _, rfl, (Hp.le_refl _), rfl, hS83⟩
      · intro r_ w88 h89 hl90 hS87 hb_ hp_
        obtain ⟨b0_, b1_, b2_, b3_, b4_, _⟩ := hb_
        refine WL.val1 (R_move (v := .int .i64 ((min (64) ((((u).length : Nat) : Int))))) b4_) ?_
        refine WL.nil ?_
        exact ⟨rfl, _, _, rfl, (Hp.le_refl _), rfl, hS87⟩
      · intro r_ w92 h93 hl94 hS91 hb_ hp_
        obtain ⟨b0_, b1_, b2_, b3_, b4_, _⟩ := hb_
        obtain ⟨p0_, p1_, _⟩ := hp_
        have p0_ : r_ 33 = .string (B (u)) := p0_
        have p1_ : r_ 34 = .int .i64 ((min (64) ((((u).length : Nat) : Int)))) := p1_
        refine WL.val1 (R_cast (v' := .string (B (u.take 64))) (R_sslice_h (a := u) (j := (min (64) ((((u).length : Nat) : Int)))) (n := min 64 u.length) p0_ p1_ Tryz.underlying9 (by omega) (by omega)) (by rw [take_min])) ?_
        refine WL.nil ?_
        exact ⟨rfl, _, _, rfl, (Hp.le_refl _), rfl, hS91⟩
      · intro r_ w96 h97 hl98 hS95 hb_ hf_
        obtain ⟨b0_, b1_, b2_, b3_, b4_, _⟩ := hb_
        have q3_ := AF.get hf_ 3 (d := 29) rfl rfl
        have q6_ := AF.get hf_ 6 (d := 32) rfl rfl
        have q9_ := AF.get hf_ 9 (d := 35) rfl rfl
        refine WL.frame [(0, .pointer (some ⟨S_b, 0, none⟩)), (2, .string (B (u))), (6, .int .i64 ((2 + (at_ * ((D.n - 2) / 2))))), (7, .int .i64 (((i : Nat) : Int))), (8, .int .i64 ((min (64) ((((u).length : Nat) : Int))))), (29, .pointer (some ⟨D_b, 0, none⟩)), (32, .int .i64 (((2 + (at_ * ((D.n - 2) / 2))) + ((i : Nat) : Int)))), (35, .string (B ((u.take 64))))] ⟨b0_, b1_, b2_, b3_, b4_, q3_, q6_, q9_, trivial⟩ (fun r_ => ?_)
        have hS101 := hS95.growMono (i := 1) rfl hl98
        have hS102 := hS101.growMono (i := 4) rfl hl98
        have hS103 : St Γ h97 (row (D_b) [.bool (E.is), .int .i64 (E.left), .int .i64 (E.n), .map (some (D_held_b)), .slice (E_pend_a) (E.pend).length (E_pend_c)] 78 :: mpG Mwr (D_held_b) (E.held) (E_held_k) :: grow 80 RWr h97 (E.pend) (E_pend_a) (E_pend_c) :: row (S_b) [.pointer (some ⟨D_b, 0, none⟩), .int .i64 (S.g0), .int .i64 (S.z0), .int .i64 (S.g1), .int .i64 (S.z1), .slice (S_files_a) (S.files).length (S_files_c)] 60 :: grow 29 RFile h97 (S.files) (S_files_a) (S_files_c) :: emp :: emp :: emp :: L) w96 := (((hS102.front (i := 4) rfl).front (i := 4) rfl).front (i := 4) rfl)
        refine S_callH (vs := [.pointer (some ⟨D_b, 0, none⟩), .int .i64 (((2 + (at_ * ((D.n - 2) / 2))) + ((i : Nat) : Int))), .string (B ((u.take 64)))]) (A := fun hh_ => [row (D_b) [.bool (E.is), .int .i64 (E.left), .int .i64 (E.n), .map (some (D_held_b)), .slice (E_pend_a) (E.pend).length (E_pend_c)] 78, mpG Mwr (D_held_b) (E.held) (E_held_k), grow 80 RWr hh_ (E.pend) (E_pend_a) (E_pend_c)]) (L := row (S_b) [.pointer (some ⟨D_b, 0, none⟩), .int .i64 (S.g0), .int .i64 (S.z0), .int .i64 (S.g1), .int .i64 (S.z1), .slice (S_files_a) (S.files).length (S_files_c)] 60 :: grow 29 RFile h97 (S.files) (S_files_a) (S_files_c) :: emp :: emp :: emp :: L) hS103 Tryz.call30 rfl (disk_Write (E) (D_b) (D_held_b) (E_held_k) (E_pend_a) (E_pend_c) (((2 + (at_ * ((D.n - 2) / 2))) + ((i : Nat) : Int))) ((u.take 64)) (by first | assumption | omega)) trivial ?_
        intro A104 v105 w100 hp106 hS99
        obtain ⟨D_held_k1107, D_pend_a1108, D_pend_c1109, rfl, rfl⟩ := hp106
        have hS99 : St Γ h97 (row (D_b) [.bool (((wrD E (((2 + (at_ * ((D.n - 2) / 2))) + ((i : Nat) : Int))) ((u.take 64))).1).is), .int .i64 (((wrD E (((2 + (at_ * ((D.n - 2) / 2))) + ((i : Nat) : Int))) ((u.take 64))).1).left), .int .i64 (((wrD E (((2 + (at_ * ((D.n - 2) / 2))) + ((i : Nat) : Int))) ((u.take 64))).1).n), .map (some (D_held_b)), .slice (D_pend_a1108) (((wrD E (((2 + (at_ * ((D.n - 2) / 2))) + ((i : Nat) : Int))) ((u.take 64))).1).pend).length (D_pend_c1109)] 78 :: mpG Mwr (D_held_b) (((wrD E (((2 + (at_ * ((D.n - 2) / 2))) + ((i : Nat) : Int))) ((u.take 64))).1).held) (D_held_k1107) :: grow 80 RWr h97 (((wrD E (((2 + (at_ * ((D.n - 2) / 2))) + ((i : Nat) : Int))) ((u.take 64))).1).pend) (D_pend_a1108) (D_pend_c1109) :: row (S_b) [.pointer (some ⟨D_b, 0, none⟩), .int .i64 (S.g0), .int .i64 (S.z0), .int .i64 (S.g1), .int .i64 (S.z1), .slice (S_files_a) (S.files).length (S_files_c)] 60 :: grow 29 RFile h97 (S.files) (S_files_a) (S_files_c) :: emp :: emp :: emp :: L) w100 := hS99
        have hS110 : St Γ h97 (row (S_b) [.pointer (some ⟨D_b, 0, none⟩), .int .i64 (S.g0), .int .i64 (S.z0), .int .i64 (S.g1), .int .i64 (S.z1), .slice (S_files_a) (S.files).length (S_files_c)] 60 :: grow 29 RFile h97 (S.files) (S_files_a) (S_files_c) :: row (D_b) [.bool (((wrD E (((2 + (at_ * ((D.n - 2) / 2))) + ((i : Nat) : Int))) ((u.take 64))).1).is), .int .i64 (((wrD E (((2 + (at_ * ((D.n - 2) / 2))) + ((i : Nat) : Int))) ((u.take 64))).1).left), .int .i64 (((wrD E (((2 + (at_ * ((D.n - 2) / 2))) + ((i : Nat) : Int))) ((u.take 64))).1).n), .map (some (D_held_b)), .slice (D_pend_a1108) (((wrD E (((2 + (at_ * ((D.n - 2) / 2))) + ((i : Nat) : Int))) ((u.take 64))).1).pend).length (D_pend_c1109)] 78 :: mpG Mwr (D_held_b) (((wrD E (((2 + (at_ * ((D.n - 2) / 2))) + ((i : Nat) : Int))) ((u.take 64))).1).held) (D_held_k1107) :: grow 80 RWr h97 (((wrD E (((2 + (at_ * ((D.n - 2) / 2))) + ((i : Nat) : Int))) ((u.take 64))).1).pend) (D_pend_a1108) (D_pend_c1109) :: L) w100 := (St.back2 (i := 4) (St.back2 (i := 4) (St.back2 (i := 4) hS99 rfl) rfl) rfl)
        refine S_callX (vs := [.int .i64 ((wrD E (((2 + (at_ * ((D.n - 2) / 2))) + ((i : Nat) : Int))) ((u.take 64))).2)]) (A := fun hh_ => []) (L := row (S_b) [.pointer (some ⟨D_b, 0, none⟩), .int .i64 (S.g0), .int .i64 (S.z0), .int .i64 (S.g1), .int .i64 (S.z1), .slice (S_files_a) (S.files).length (S_files_c)] 60 :: grow 29 RFile h97 (S.files) (S_files_a) (S_files_c) :: row (D_b) [.bool (((wrD E (((2 + (at_ * ((D.n - 2) / 2))) + ((i : Nat) : Int))) ((u.take 64))).1).is), .int .i64 (((wrD E (((2 + (at_ * ((D.n - 2) / 2))) + ((i : Nat) : Int))) ((u.take 64))).1).left), .int .i64 (((wrD E (((2 + (at_ * ((D.n - 2) / 2))) + ((i : Nat) : Int))) ((u.take 64))).1).n), .map (some (D_held_b)), .slice (D_pend_a1108) (((wrD E (((2 + (at_ * ((D.n - 2) / 2))) + ((i : Nat) : Int))) ((u.take 64))).1).pend).length (D_pend_c1109)] 78 :: mpG Mwr (D_held_b) (((wrD E (((2 + (at_ * ((D.n - 2) / 2))) + ((i : Nat) : Int))) ((u.take 64))).1).held) (D_held_k1107) :: grow 80 RWr h97 (((wrD E (((2 + (at_ * ((D.n - 2) / 2))) + ((i : Nat) : Int))) ((u.take 64))).1).pend) (D_pend_a1108) (D_pend_c1109) :: L) hS110 Tryz.call29 rfl (store_must ((wrD E (((2 + (at_ * ((D.n - 2) / 2))) + ((i : Nat) : Int))) ((u.take 64))).2)) trivial ?_ ?_
        · intro A116 c117 w118 hp119 hS120
          obtain ⟨rfl, rfl, hf121⟩ := hp119
          have hS120 : St Γ h97 (row (S_b) [.pointer (some ⟨D_b, 0, none⟩), .int .i64 (S.g0), .int .i64 (S.z0), .int .i64 (S.g1), .int .i64 (S.z1), .slice (S_files_a) (S.files).length (S_files_c)] 60 :: grow 29 RFile h97 (S.files) (S_files_a) (S_files_c) :: row (D_b) [.bool (((wrD E (((2 + (at_ * ((D.n - 2) / 2))) + ((i : Nat) : Int))) ((u.take 64))).1).is), .int .i64 (((wrD E (((2 + (at_ * ((D.n - 2) / 2))) + ((i : Nat) : Int))) ((u.take 64))).1).left), .int .i64 (((wrD E (((2 + (at_ * ((D.n - 2) / 2))) + ((i : Nat) : Int))) ((u.take 64))).1).n), .map (some (D_held_b)), .slice (D_pend_a1108) (((wrD E (((2 + (at_ * ((D.n - 2) / 2))) + ((i : Nat) : Int))) ((u.take 64))).1).pend).length (D_pend_c1109)] 78 :: mpG Mwr (D_held_b) (((wrD E (((2 + (at_ * ((D.n - 2) / 2))) + ((i : Nat) : Int))) ((u.take 64))).1).held) (D_held_k1107) :: grow 80 RWr h97 (((wrD E (((2 + (at_ * ((D.n - 2) / 2))) + ((i : Nat) : Int))) ((u.take 64))).1).pend) (D_pend_a1108) (D_pend_c1109) :: L) w118 := hS120
          refine then_panic ?_
          refine block_panic ?_
          refine then_panic ?_
          refine then_panic ?_
          refine block_panic ?_
          refine then_panic ?_
          refine topX_panic ?_
          have e_ : layS D at_ t = _ := layS_err (e := E) (f2.symm.trans (layF_err (by omega) hk (by assumption))) (by assumption)
          exact ⟨[row (S_b) [.pointer (some ⟨D_b, 0, none⟩), .int .i64 (S.g0), .int .i64 (S.z0), .int .i64 (S.g1), .int .i64 (S.z1), .slice (S_files_a) (S.files).length (S_files_c)] 60, grow 29 RFile h (S.files) (S_files_a) (S_files_c), row (D_b) [.bool (((wrD E (((2 + (at_ * ((D.n - 2) / 2))) + ((i : Nat) : Int))) ((u.take 64))).1).is), .int .i64 (((wrD E (((2 + (at_ * ((D.n - 2) / 2))) + ((i : Nat) : Int))) ((u.take 64))).1).left), .int .i64 (((wrD E (((2 + (at_ * ((D.n - 2) / 2))) + ((i : Nat) : Int))) ((u.take 64))).1).n), .map (some (D_held_b)), .slice (D_pend_a1108) (((wrD E (((2 + (at_ * ((D.n - 2) / 2))) + ((i : Nat) : Int))) ((u.take 64))).1).pend).length (D_pend_c1109)] 78, mpG Mwr (D_held_b) (((wrD E (((2 + (at_ * ((D.n - 2) / 2))) + ((i : Nat) : Int))) ((u.take 64))).1).held) (D_held_k1107), grow 80 RWr h (((wrD E (((2 + (at_ * ((D.n - 2) / 2))) + ((i : Nat) : Int))) ((u.take 64))).1).pend) (D_pend_a1108) (D_pend_c1109)], ⟨D_held_k1107, D_pend_a1108, D_pend_c1109, (by first | rfl | (rw [e_]; done) | (rw [e_]; rfl)), (by first | rfl | (rw [e_]; done) | (rw [e_]; rfl)), (by rw [e_]; assumption)⟩, (((hS120.growFree (i := 1) h RFile_free rfl).growFree (i := 4) h RWr_free rfl).weaken_h (hl13.trans hl98))⟩
        intro A113 v114 w112 hp115 hS111
        obtain ⟨rfl, rfl, hf122⟩ := hp115
        have hS111 : St Γ h97 (row (S_b) [.pointer (some ⟨D_b, 0, none⟩), .int .i64 (S.g0), .int .i64 (S.z0), .int .i64 (S.g1), .int .i64 (S.z1), .slice (S_files_a) (S.files).length (S_files_c)] 60 :: grow 29 RFile h97 (S.files) (S_files_a) (S_files_c) :: row (D_b) [.bool (((wrD E (((2 + (at_ * ((D.n - 2) / 2))) + ((i : Nat) : Int))) ((u.take 64))).1).is), .int .i64 (((wrD E (((2 + (at_ * ((D.n - 2) / 2))) + ((i : Nat) : Int))) ((u.take 64))).1).left), .int .i64 (((wrD E (((2 + (at_ * ((D.n - 2) / 2))) + ((i : Nat) : Int))) ((u.take 64))).1).n), .map (some (D_held_b)), .slice (D_pend_a1108) (((wrD E (((2 + (at_ * ((D.n - 2) / 2))) + ((i : Nat) : Int))) ((u.take 64))).1).pend).length (D_pend_c1109)] 78 :: mpG Mwr (D_held_b) (((wrD E (((2 + (at_ * ((D.n - 2) / 2))) + ((i : Nat) : Int))) ((u.take 64))).1).held) (D_held_k1107) :: grow 80 RWr h97 (((wrD E (((2 + (at_ * ((D.n - 2) / 2))) + ((i : Nat) : Int))) ((u.take 64))).1).pend) (D_pend_a1108) (D_pend_c1109) :: L) w112 := hS111
        refine WL.nil ?_
        refine then_normal ?_
        refine WC.region ?_
        refine WL.val1 (R_move (v := .string (B (u))) rfl) ?_
        refine WL.val1 (R_move (v := .int .i64 ((min (64) ((((u).length : Nat) : Int))))) rfl) ?_
        refine WL.val1 (R_cast (v' := .string (B (u.drop 64))) (R_sslice_l (a := u) (i := (min (64) ((((u).length : Nat) : Int)))) (m := min 64 u.length) rfl rfl Tryz.underlying9 (by omega) (by omega)) (by rw [drop_min])) ?_
        refine WL.val1 (R_assign (v := .string (B ((u.drop 64)))) rfl) ?_
        refine WL.nil ?_
        refine block_normal ?_
        refine then_normal ?_
        refine WC.region ?_
        refine WL.val1 (R_move (v := .int .i64 (((i : Nat) : Int))) rfl) ?_
        refine WL.val1 (R_add_i (a := ((i : Nat) : Int)) (b := 1) rfl rfl (by omega)) ?_
        refine WL.val1 (R_assign (v := .int .i64 ((((i : Nat) : Int) + 1))) rfl) ?_
        refine WL.nil ?_
        refine then_normal ?_
        exact ⟨(i + 1, (u.drop 64), (wrD E (((2 + (at_ * ((D.n - 2) / 2))) + ((i : Nat) : Int))) ((u.take 64))).1, (D_held_k1107), D_pend_a1108, D_pend_c1109), ⟨rfl, (by first | rfl | (apply congrArg (Value.int .i64); omega) | simp), rfl, (by first | rfl | (apply congrArg (Value.int .i64); omega) | simp), trivial⟩, ⟨h97, (hl13.trans hl98), hS111, (by (try dsimp only); refine ⟨(wrD_n _ _ _).trans f1.1, ?_, ?_⟩; (have := wrD_pend E (2 + at_ * ((D.n - 2) / 2) + i) (u.take 64); omega); (rw [List.length_drop]; omega)), (by (try dsimp only); obtain ⟨h1_, h2_⟩ := layF_ok (d := E) (a := 2 + at_ * ((D.n - 2) / 2)) (i := i) (by omega) hk (by assumption); exact ⟨_, h2_, by rw [← f2, h1_]; rfl⟩)⟩, (by (try simp only []); rw [List.length_drop]; omega)⟩
    · skip
      refine WC.exit ?_
      refine then_exit ?_
      refine then_exit ?_
      refine block_exit ?_
      refine then_normal ?_
      have e0_ := f2.symm.trans (layF_end (d := E) (a := 2 + at_ * ((D.n - 2) / 2)) (i := i) (by omega) hk)
      refine WC.region ?_
      refine WL.val1 (R_move (v := .pointer (some ⟨S_b, 0, none⟩)) rfl) ?_
      refine WL.val1 (R_nilCheck rfl) ?_
      refine WL.val1 (R_fieldAddr (b := S_b) (off := 0) (m := 0) rfl (fun _ => by kernel_rfl)) ?_
      refine WL.val1 (R_load (v := .pointer (some ⟨D_b, 0, none⟩)) rfl (hS10.has (i := 0) rfl) (Tryz.isAgg24 _) rfl) ?_
      have hS125 : St Γ h12 (row (D_b) [.bool (E.is), .int .i64 (E.left), .int .i64 (E.n), .map (some (D_held_b)), .slice (E_pend_a) (E.pend).length (E_pend_c)] 78 :: mpG Mwr (D_held_b) (E.held) (E_held_k) :: grow 80 RWr h12 (E.pend) (E_pend_a) (E_pend_c) :: row (S_b) [.pointer (some ⟨D_b, 0, none⟩), .int .i64 (S.g0), .int .i64 (S.z0), .int .i64 (S.g1), .int .i64 (S.z1), .slice (S_files_a) (S.files).length (S_files_c)] 60 :: grow 29 RFile h12 (S.files) (S_files_a) (S_files_c) :: emp :: emp :: emp :: L) w11 := (((hS10.front (i := 4) rfl).front (i := 4) rfl).front (i := 4) rfl)
      refine S_callH (vs := [.pointer (some ⟨D_b, 0, none⟩)]) (A := fun hh_ => [row (D_b) [.bool (E.is), .int .i64 (E.left), .int .i64 (E.n), .map (some (D_held_b)), .slice (E_pend_a) (E.pend).length (E_pend_c)] 78, mpG Mwr (D_held_b) (E.held) (E_held_k), grow 80 RWr hh_ (E.pend) (E_pend_a) (E_pend_c)]) (L := row (S_b) [.pointer (some ⟨D_b, 0, none⟩), .int .i64 (S.g0), .int .i64 (S.z0), .int .i64 (S.g1), .int .i64 (S.z1), .slice (S_files_a) (S.files).length (S_files_c)] 60 :: grow 29 RFile h12 (S.files) (S_files_a) (S_files_c) :: emp :: emp :: emp :: L) hS125 Tryz.call32 rfl (disk_Sync (E) (D_b) (D_held_b) (E_held_k) (E_pend_a) (E_pend_c) (by first | assumption | omega)) trivial ?_
      intro A126 v127 w124 hp128 hS123
      obtain ⟨D_held_k1129, D_pend_a1130, D_pend_c1131, rfl, rfl⟩ := hp128
      have hS123 : St Γ h12 (row (D_b) [.bool (((syncD E).1).is), .int .i64 (((syncD E).1).left), .int .i64 (((syncD E).1).n), .map (some (D_held_b)), .slice (D_pend_a1130) (((syncD E).1).pend).length (D_pend_c1131)] 78 :: mpG Mwr (D_held_b) (((syncD E).1).held) (D_held_k1129) :: grow 80 RWr h12 (((syncD E).1).pend) (D_pend_a1130) (D_pend_c1131) :: row (S_b) [.pointer (some ⟨D_b, 0, none⟩), .int .i64 (S.g0), .int .i64 (S.z0), .int .i64 (S.g1), .int .i64 (S.z1), .slice (S_files_a) (S.files).length (S_files_c)] 60 :: grow 29 RFile h12 (S.files) (S_files_a) (S_files_c) :: emp :: emp :: emp :: L) w124 := hS123
      have hS132 : St Γ h12 (row (S_b) [.pointer (some ⟨D_b, 0, none⟩), .int .i64 (S.g0), .int .i64 (S.z0), .int .i64 (S.g1), .int .i64 (S.z1), .slice (S_files_a) (S.files).length (S_files_c)] 60 :: grow 29 RFile h12 (S.files) (S_files_a) (S_files_c) :: row (D_b) [.bool (((syncD E).1).is), .int .i64 (((syncD E).1).left), .int .i64 (((syncD E).1).n), .map (some (D_held_b)), .slice (D_pend_a1130) (((syncD E).1).pend).length (D_pend_c1131)] 78 :: mpG Mwr (D_held_b) (((syncD E).1).held) (D_held_k1129) :: grow 80 RWr h12 (((syncD E).1).pend) (D_pend_a1130) (D_pend_c1131) :: L) w124 := (St.back2 (i := 4) (St.back2 (i := 4) (St.back2 (i := 4) hS123 rfl) rfl) rfl)
      refine S_callX (vs := [.int .i64 ((syncD E).2)]) (A := fun hh_ => []) (L := row (S_b) [.pointer (some ⟨D_b, 0, none⟩), .int .i64 (S.g0), .int .i64 (S.z0), .int .i64 (S.g1), .int .i64 (S.z1), .slice (S_files_a) (S.files).length (S_files_c)] 60 :: grow 29 RFile h12 (S.files) (S_files_a) (S_files_c) :: row (D_b) [.bool (((syncD E).1).is), .int .i64 (((syncD E).1).left), .int .i64 (((syncD E).1).n), .map (some (D_held_b)), .slice (D_pend_a1130) (((syncD E).1).pend).length (D_pend_c1131)] 78 :: mpG Mwr (D_held_b) (((syncD E).1).held) (D_held_k1129) :: grow 80 RWr h12 (((syncD E).1).pend) (D_pend_a1130) (D_pend_c1131) :: L) hS132 Tryz.call29 rfl (store_must ((syncD E).2)) trivial ?_ ?_
      · intro A138 c139 w140 hp141 hS142
        obtain ⟨rfl, rfl, hf143⟩ := hp141
        have hS142 : St Γ h12 (row (S_b) [.pointer (some ⟨D_b, 0, none⟩), .int .i64 (S.g0), .int .i64 (S.z0), .int .i64 (S.g1), .int .i64 (S.z1), .slice (S_files_a) (S.files).length (S_files_c)] 60 :: grow 29 RFile h12 (S.files) (S_files_a) (S_files_c) :: row (D_b) [.bool (((syncD E).1).is), .int .i64 (((syncD E).1).left), .int .i64 (((syncD E).1).n), .map (some (D_held_b)), .slice (D_pend_a1130) (((syncD E).1).pend).length (D_pend_c1131)] 78 :: mpG Mwr (D_held_b) (((syncD E).1).held) (D_held_k1129) :: grow 80 RWr h12 (((syncD E).1).pend) (D_pend_a1130) (D_pend_c1131) :: L) w140 := hS142
        refine topX_panic ?_
        have e_ : layS D at_ t = syncD E := layS_ok e0_
        exact ⟨[row (S_b) [.pointer (some ⟨D_b, 0, none⟩), .int .i64 (S.g0), .int .i64 (S.z0), .int .i64 (S.g1), .int .i64 (S.z1), .slice (S_files_a) (S.files).length (S_files_c)] 60, grow 29 RFile h (S.files) (S_files_a) (S_files_c), row (D_b) [.bool (((syncD E).1).is), .int .i64 (((syncD E).1).left), .int .i64 (((syncD E).1).n), .map (some (D_held_b)), .slice (D_pend_a1130) (((syncD E).1).pend).length (D_pend_c1131)] 78, mpG Mwr (D_held_b) (((syncD E).1).held) (D_held_k1129), grow 80 RWr h (((syncD E).1).pend) (D_pend_a1130) (D_pend_c1131)], ⟨D_held_k1129, D_pend_a1130, D_pend_c1131, (by first | rfl | (rw [e_]; done) | (rw [e_]; rfl)), (by first | rfl | (rw [e_]; done) | (rw [e_]; rfl)), (by rw [e_]; assumption)⟩, (((hS142.growFree (i := 1) h RFile_free rfl).growFree (i := 4) h RWr_free rfl).weaken_h hl13)⟩
      intro A135 v136 w134 hp137 hS133
      obtain ⟨rfl, rfl, hf144⟩ := hp137
      have hS133 : St Γ h12 (row (S_b) [.pointer (some ⟨D_b, 0, none⟩), .int .i64 (S.g0), .int .i64 (S.z0), .int .i64 (S.g1), .int .i64 (S.z1), .slice (S_files_a) (S.files).length (S_files_c)] 60 :: grow 29 RFile h12 (S.files) (S_files_a) (S_files_c) :: row (D_b) [.bool (((syncD E).1).is), .int .i64 (((syncD E).1).left), .int .i64 (((syncD E).1).n), .map (some (D_held_b)), .slice (D_pend_a1130) (((syncD E).1).pend).length (D_pend_c1131)] 78 :: mpG Mwr (D_held_b) (((syncD E).1).held) (D_held_k1129) :: grow 80 RWr h12 (((syncD E).1).pend) (D_pend_a1130) (D_pend_c1131) :: L) w134 := hS133
      refine WL.nil ?_
      refine topX_normal (.tuple #[]) (gives0 rfl) ?_
      have e_ : layS D at_ t = syncD E := layS_ok e0_
      exact ⟨[row (S_b) [.pointer (some ⟨D_b, 0, none⟩), .int .i64 (S.g0), .int .i64 (S.z0), .int .i64 (S.g1), .int .i64 (S.z1), .slice (S_files_a) (S.files).length (S_files_c)] 60, grow 29 RFile h (S.files) (S_files_a) (S_files_c), row (D_b) [.bool (((syncD E).1).is), .int .i64 (((syncD E).1).left), .int .i64 (((syncD E).1).n), .map (some (D_held_b)), .slice (D_pend_a1130) (((syncD E).1).pend).length (D_pend_c1131)] 78, mpG Mwr (D_held_b) (((syncD E).1).held) (D_held_k1129), grow 80 RWr h (((syncD E).1).pend) (D_pend_a1130) (D_pend_c1131)], ⟨D_held_k1129, D_pend_a1130, D_pend_c1131, (by first | rfl | (rw [e_]; done) | (rw [e_]; rfl) | (simp; done)), (by first | rfl | (rw [e_]; done) | (rw [e_]; rfl)), (by rw [e_]; assumption)⟩, (((hS133.growFree (i := 1) h RFile_free rfl).growFree (i := 4) h RWr_free rfl).weaken_h hl13)⟩
set_option maxHeartbeats 1000000 in
theorem store_Commit (S : Sto) (S_b : Nat) (S_files_a : Option Addr) (S_files_c : Nat) (D : Dsk) (D_b : Nat) (D_held_b D_held_k : Nat) (D_pend_a : Option Addr) (D_pend_c : Nat) (l : List File) (l_a : Option Addr) (l_c : Nat) (hn : 4 ≤ D.n ∧ D.n ≤ 4096) (hp : D.pend.length ≤ 1000) (hl : l.length ≤ 1000000) (hsz : ∀ x ∈ l, x.name.length ≤ 9223372036854775807 ∧ x.text.length ≤ 9223372036854775807) (hg : 0 ≤ S.g0 ∧ S.g0 ≤ 999999 ∧ 0 ≤ S.g1 ∧ S.g1 ≤ 999999) : MutH GG Tryz.prog 12 (fun h => Sl RFile h l l_a l_c) [.pointer (some ⟨S_b, 0, none⟩), .slice (l_a) (l).length (l_c)] (fun h => [row (S_b) [.pointer (some ⟨D_b, 0, none⟩), .int .i64 (S.g0), .int .i64 (S.z0), .int .i64 (S.g1), .int .i64 (S.z1), .slice (S_files_a) (S.files).length (S_files_c)] 60, grow 29 RFile h (S.files) (S_files_a) (S_files_c), row (D_b) [.bool (D.is), .int .i64 (D.left), .int .i64 (D.n), .map (some (D_held_b)), .slice (D_pend_a) (D.pend).length (D_pend_c)] 78, mpG Mwr (D_held_b) (D.held) (D_held_k), grow 80 RWr h (D.pend) (D_pend_a) (D_pend_c)]) (fun h A v => ∃ (S_files_a1 : Option Addr) (S_files_c1 : Nat) (D_held_k1 : Nat) (D_pend_a1 : Option Addr) (D_pend_c1 : Nat), v = .int .i64 ((comS D S l).2.2) ∧ A = [row (S_b) [.pointer (some ⟨D_b, 0, none⟩), .int .i64 (((comS D S l).2.1).g0), .int .i64 (((comS D S l).2.1).z0), .int .i64 (((comS D S l).2.1).g1), .int .i64 (((comS D S l).2.1).z1), .slice (S_files_a1) (((comS D S l).2.1).files).length (S_files_c1)] 60, grow 29 RFile h (((comS D S l).2.1).files) (S_files_a1) (S_files_c1), row (D_b) [.bool (((comS D S l).1).is), .int .i64 (((comS D S l).1).left), .int .i64 (((comS D S l).1).n), .map (some (D_held_b)), .slice (D_pend_a1) (((comS D S l).1).pend).length (D_pend_c1)] 78, mpG Mwr (D_held_b) (((comS D S l).1).held) (D_held_k1), grow 80 RWr h (((comS D S l).1).pend) (D_pend_a1) (D_pend_c1)]) := by
  intro Γ h L w hpre hS
  have sl_l := hpre
  refine Ret.bodyD Tryz.func12 rfl Tryz.ntmps12 (Nat.le_of_ble_eq_true rfl) ?_
  have hS : St Γ h (row (S_b) [.pointer (some ⟨D_b, 0, none⟩), .int .i64 (S.g0), .int .i64 (S.z0), .int .i64 (S.g1), .int .i64 (S.z1), .slice (S_files_a) (S.files).length (S_files_c)] 60 :: grow 29 RFile h (S.files) (S_files_a) (S_files_c) :: row (D_b) [.bool (D.is), .int .i64 (D.left), .int .i64 (D.n), .map (some (D_held_b)), .slice (D_pend_a) (D.pend).length (D_pend_c)] 78 :: mpG Mwr (D_held_b) (D.held) (D_held_k) :: grow 80 RWr h (D.pend) (D_pend_a) (D_pend_c) :: L) w := hS
  refine WCX.seq ?_
  refine WCX.of ?_
  by_cases hnow_ : S.g0 < S.g1
  · skip
    have hat_ : 1 - nowS S = 0 := by rw [nowS, if_pos hnow_]; rfl
    have hnw_ : nowS S = 1 := by rw [nowS, if_pos hnow_]
    refine WC.region ?_
    refine S_alloc hS Tryz.zeroValue31 ?_
    intro w2 hS1
    refine WL.nil ?_
    refine then_normal ?_
    refine WCX.seq ?_
    refine WCX.seq ?_
    refine WCX.of ?_
    refine WC.region ?_
    refine WL.val1 (R_move (v := .slice (l_a) (l).length (l_c)) rfl) ?_
    refine S_callP (vs := [.slice (l_a) (l).length (l_c)]) hS1 Tryz.call23 rfl (files_Right (l) (l_a) (l_c) (by first | assumption | omega | exact rightS_sz hr_ | (have := hlp_ 0; have := hlp_ 1; omega) | (dsimp only; omega) | (have := hlp_ 0; have := hlp_ 1; have q_ := wrD_pend (layS D 0 (filesS l)).1 0 (hdText (max S.g0 S.g1 + 1) ((filesS l).length : Nat)); have q2_ := wrD_pend (layS D 1 (filesS l)).1 1 (hdText (max S.g0 S.g1 + 1) ((filesS l).length : Nat)); omega)) (by first | assumption | omega | exact rightS_sz hr_ | (have := hlp_ 0; have := hlp_ 1; omega) | (dsimp only; omega) | (have := hlp_ 0; have := hlp_ 1; have q_ := wrD_pend (layS D 0 (filesS l)).1 0 (hdText (max S.g0 S.g1 + 1) ((filesS l).length : Nat)); have q2_ := wrD_pend (layS D 1 (filesS l)).1 1 (hdText (max S.g0 S.g1 + 1) ((filesS l).length : Nat)); omega))) sl_l ?_
    intro w4 hS3
    refine WL.val1 (R_not (b := rightS l) rfl) ?_
    refine WL.nil ?_
    refine then_normal ?_
    refine WCX.of ?_
    refine WC.condI (¬ ((rightS l) = true)) (b := (!(rightS l))) rfl (b_not Iff.rfl) (fun c0 => ?_) (fun c0 => ?_)
    · skip
      refine WC.seq ?_
      refine WC.region ?_
      refine S_store (i := 0) (b := w.heap.size) (l := [.int .i64 (0)]) (l' := [.int .i64 (5)]) (vs := [.int .i64 (5)]) (v := .int .i64 (5)) hS3 rfl rfl rfl Tryz.sizeOf31 rfl rfl rfl (Nat.le_of_ble_eq_true rfl) rfl rfl ?_
      intro w6 hS5
      refine WL.nil ?_
      refine then_normal ?_
      refine WC.ret ?_
      refine then_ret ?_
      refine topD_ret (.int .i64 (5)) (givesL1 (vs := [.int .i64 (5)]) rfl ⟨⟨w.heap.size, 0, rfl, loadVar1 (hS5.has (i := 0) rfl) (Tryz.isAgg31 _) rfl⟩, trivial⟩ rfl) ?_
      have e_ : comS D S l = (D, S, 5) := comS_form (by simpa using c0)
      have hS7 : St Γ h (row (S_b) [.pointer (some ⟨D_b, 0, none⟩), .int .i64 (S.g0), .int .i64 (S.z0), .int .i64 (S.g1), .int .i64 (S.z1), .slice (S_files_a) (S.files).length (S_files_c)] 60 :: grow 29 RFile h (S.files) (S_files_a) (S_files_c) :: row (D_b) [.bool (D.is), .int .i64 (D.left), .int .i64 (D.n), .map (some (D_held_b)), .slice (D_pend_a) (D.pend).length (D_pend_c)] 78 :: mpG Mwr (D_held_b) (D.held) (D_held_k) :: grow 80 RWr h (D.pend) (D_pend_a) (D_pend_c) :: L) w6 := ((((((hS5.move (i := 5) rfl).move (i := 5) rfl).move (i := 5) rfl).move (i := 5) rfl).move (i := 5) rfl).remove 5)
      exact ⟨[row (S_b) [.pointer (some ⟨D_b, 0, none⟩), .int .i64 (S.g0), .int .i64 (S.z0), .int .i64 (S.g1), .int .i64 (S.z1), .slice (S_files_a) (S.files).length (S_files_c)] 60, grow 29 RFile h (S.files) (S_files_a) (S_files_c), row (D_b) [.bool (D.is), .int .i64 (D.left), .int .i64 (D.n), .map (some (D_held_b)), .slice (D_pend_a) (D.pend).length (D_pend_c)] 78, mpG Mwr (D_held_b) (D.held) (D_held_k), grow 80 RWr h (D.pend) (D_pend_a) (D_pend_c)], ⟨S_files_a, S_files_c, D_held_k, D_pend_a, D_pend_c, (by first | rfl | (rw [e_]; done) | (rw [e_]; rfl)), (by first | rfl | (rw [e_]; done) | (rw [e_]; rfl))⟩, hS7⟩
    · skip
      have hr_ : rightS l = true := by simpa using c0
      have hfl_ := filesS_le hr_
      have hlay_ := fun a => layS_n D a (filesS l)
      have hlp_ := fun a => layS_pend (d := D) (at_ := a) (t := filesS l)
      refine WC.skip ?_
      refine then_normal ?_
      refine WCX.seq ?_
      refine WCX.of ?_
      refine WC.region ?_
      refine WL.val1 (R_move (v := .slice (l_a) (l).length (l_c)) rfl) ?_
      refine S_callP (vs := [.slice (l_a) (l).length (l_c)]) hS3 Tryz.call24 rfl (wire_Files (l) (l_a) (l_c) (by first | assumption | omega | exact rightS_sz hr_ | (have := hlp_ 0; have := hlp_ 1; omega) | (dsimp only; omega) | (have := hlp_ 0; have := hlp_ 1; have q_ := wrD_pend (layS D 0 (filesS l)).1 0 (hdText (max S.g0 S.g1 + 1) ((filesS l).length : Nat)); have q2_ := wrD_pend (layS D 1 (filesS l)).1 1 (hdText (max S.g0 S.g1 + 1) ((filesS l).length : Nat)); omega))) sl_l ?_
      intro w9 hS8
      refine WL.val1 (R_assign (v := .string (B (filesS l))) rfl) ?_
      refine WL.nil ?_
      refine then_normal ?_
      refine WCX.seq ?_
      refine WCX.seq ?_
      refine WCX.of ?_
      refine WC.region ?_
      refine WL.val1 (R_move (v := .string (B (filesS l))) rfl) ?_
      refine WL.val1 (R_slen (a := filesS l) rfl Tryz.underlying9) ?_
      refine WL.val1 (R_move (v := .pointer (some ⟨S_b, 0, none⟩)) rfl) ?_
      refine WL.val1 (R_nilCheck rfl) ?_
      refine WL.val1 (R_fieldAddr (b := S_b) (off := 0) (m := 0) rfl (fun _ => by kernel_rfl)) ?_
      refine WL.val1 (R_load (v := .pointer (some ⟨D_b, 0, none⟩)) rfl (hS8.has (i := 1) rfl) (Tryz.isAgg24 _) rfl) ?_
      have hS12 : St Γ h (row (D_b) [.bool (D.is), .int .i64 (D.left), .int .i64 (D.n), .map (some (D_held_b)), .slice (D_pend_a) (D.pend).length (D_pend_c)] 78 :: mpG Mwr (D_held_b) (D.held) (D_held_k) :: grow 80 RWr h (D.pend) (D_pend_a) (D_pend_c) :: row (w.heap.size) [.int .i64 (0)] 31 :: row (S_b) [.pointer (some ⟨D_b, 0, none⟩), .int .i64 (S.g0), .int .i64 (S.z0), .int .i64 (S.g1), .int .i64 (S.z1), .slice (S_files_a) (S.files).length (S_files_c)] 60 :: grow 29 RFile h (S.files) (S_files_a) (S_files_c) :: emp :: emp :: emp :: L) w9 := (((hS8.front (i := 5) rfl).front (i := 5) rfl).front (i := 5) rfl)
      refine S_callH (vs := [.pointer (some ⟨D_b, 0, none⟩)]) (A := fun hh_ => [row (D_b) [.bool (D.is), .int .i64 (D.left), .int .i64 (D.n), .map (some (D_held_b)), .slice (D_pend_a) (D.pend).length (D_pend_c)] 78, mpG Mwr (D_held_b) (D.held) (D_held_k), grow 80 RWr hh_ (D.pend) (D_pend_a) (D_pend_c)]) (L := row (w.heap.size) [.int .i64 (0)] 31 :: row (S_b) [.pointer (some ⟨D_b, 0, none⟩), .int .i64 (S.g0), .int .i64 (S.z0), .int .i64 (S.g1), .int .i64 (S.z1), .slice (S_files_a) (S.files).length (S_files_c)] 60 :: grow 29 RFile h (S.files) (S_files_a) (S_files_c) :: emp :: emp :: emp :: L) hS12 Tryz.call25 rfl (disk_Len (D) (D_b) (D_held_b) (D_held_k) (D_pend_a) (D_pend_c)) trivial ?_
      intro A13 v14 w11 hp15 hS10
      obtain ⟨rfl, rfl⟩ := hp15
      have hS10 : St Γ h (row (D_b) [.bool (D.is), .int .i64 (D.left), .int .i64 (D.n), .map (some (D_held_b)), .slice (D_pend_a) (D.pend).length (D_pend_c)] 78 :: mpG Mwr (D_held_b) (D.held) (D_held_k) :: grow 80 RWr h (D.pend) (D_pend_a) (D_pend_c) :: row (w.heap.size) [.int .i64 (0)] 31 :: row (S_b) [.pointer (some ⟨D_b, 0, none⟩), .int .i64 (S.g0), .int .i64 (S.z0), .int .i64 (S.g1), .int .i64 (S.z1), .slice (S_files_a) (S.files).length (S_files_c)] 60 :: grow 29 RFile h (S.files) (S_files_a) (S_files_c) :: emp :: emp :: emp :: L) w11 := hS10
      have hS16 : St Γ h (row (w.heap.size) [.int .i64 (0)] 31 :: row (S_b) [.pointer (some ⟨D_b, 0, none⟩), .int .i64 (S.g0), .int .i64 (S.z0), .int .i64 (S.g1), .int .i64 (S.z1), .slice (S_files_a) (S.files).length (S_files_c)] 60 :: grow 29 RFile h (S.files) (S_files_a) (S_files_c) :: row (D_b) [.bool (D.is), .int .i64 (D.left), .int .i64 (D.n), .map (some (D_held_b)), .slice (D_pend_a) (D.pend).length (D_pend_c)] 78 :: mpG Mwr (D_held_b) (D.held) (D_held_k) :: grow 80 RWr h (D.pend) (D_pend_a) (D_pend_c) :: L) w11 := (St.back2 (i := 5) (St.back2 (i := 5) (St.back2 (i := 5) hS10 rfl) rfl) rfl)
      refine S_callP (vs := [.int .i64 (D.n)]) hS16 Tryz.call8 rfl (store_Room (D.n) (by first | assumption | omega | exact rightS_sz hr_ | (have := hlp_ 0; have := hlp_ 1; omega) | (dsimp only; omega) | (have := hlp_ 0; have := hlp_ 1; have q_ := wrD_pend (layS D 0 (filesS l)).1 0 (hdText (max S.g0 S.g1 + 1) ((filesS l).length : Nat)); have q2_ := wrD_pend (layS D 1 (filesS l)).1 1 (hdText (max S.g0 S.g1 + 1) ((filesS l).length : Nat)); omega))) trivial ?_
      intro w18 hS17
      refine WL.val1 (R_gtr (a := (((filesS l).length : Nat) : Int)) (b := (roomS D.n)) rfl rfl) ?_
      refine WL.nil ?_
      refine then_normal ?_
      refine WCX.of ?_
      refine WC.condP ((roomS D.n) < (((filesS l).length : Nat) : Int)) rfl (fun c1 => ?_) (fun c1 => ?_)
      · skip
        refine WC.seq ?_
        refine WC.region ?_
        refine S_store (i := 0) (b := w.heap.size) (l := [.int .i64 (0)]) (l' := [.int .i64 (7)]) (vs := [.int .i64 (7)]) (v := .int .i64 (7)) hS17 rfl rfl rfl Tryz.sizeOf31 rfl rfl rfl (Nat.le_of_ble_eq_true rfl) rfl rfl ?_
        intro w20 hS19
        refine WL.nil ?_
        refine then_normal ?_
        refine WC.ret ?_
        refine then_ret ?_
        refine topD_ret (.int .i64 (7)) (givesL1 (vs := [.int .i64 (7)]) rfl ⟨⟨w.heap.size, 0, rfl, loadVar1 (hS19.has (i := 0) rfl) (Tryz.isAgg31 _) rfl⟩, trivial⟩ rfl) ?_
        have e_ : comS D S l = (D, S, 7) := comS_full hr_ c1
        have hS21 : St Γ h (row (S_b) [.pointer (some ⟨D_b, 0, none⟩), .int .i64 (S.g0), .int .i64 (S.z0), .int .i64 (S.g1), .int .i64 (S.z1), .slice (S_files_a) (S.files).length (S_files_c)] 60 :: grow 29 RFile h (S.files) (S_files_a) (S_files_c) :: row (D_b) [.bool (D.is), .int .i64 (D.left), .int .i64 (D.n), .map (some (D_held_b)), .slice (D_pend_a) (D.pend).length (D_pend_c)] 78 :: mpG Mwr (D_held_b) (D.held) (D_held_k) :: grow 80 RWr h (D.pend) (D_pend_a) (D_pend_c) :: L) w20 := ((((((hS19.move (i := 5) rfl).move (i := 5) rfl).move (i := 5) rfl).move (i := 5) rfl).move (i := 5) rfl).remove 5)
        exact ⟨[row (S_b) [.pointer (some ⟨D_b, 0, none⟩), .int .i64 (S.g0), .int .i64 (S.z0), .int .i64 (S.g1), .int .i64 (S.z1), .slice (S_files_a) (S.files).length (S_files_c)] 60, grow 29 RFile h (S.files) (S_files_a) (S_files_c), row (D_b) [.bool (D.is), .int .i64 (D.left), .int .i64 (D.n), .map (some (D_held_b)), .slice (D_pend_a) (D.pend).length (D_pend_c)] 78, mpG Mwr (D_held_b) (D.held) (D_held_k), grow 80 RWr h (D.pend) (D_pend_a) (D_pend_c)], ⟨S_files_a, S_files_c, D_held_k, D_pend_a, D_pend_c, (by first | rfl | (rw [e_]; done) | (rw [e_]; rfl)), (by first | rfl | (rw [e_]; done) | (rw [e_]; rfl))⟩, hS21⟩
      · skip
        refine WC.skip ?_
        refine then_normal ?_
        refine WCX.seq ?_
        refine WCX.defer (v1 := .func (.func 26) #[] #[.pointer (some ⟨w.heap.size, 0, none⟩)]) (dd := ⟨.fn (.func 26) #[.pointer (some ⟨w.heap.size, 0, none⟩)], #[]⟩) (R_makeFunc rfl) (R_defer rfl) ?_
        refine then_normal ?_
        refine WCX.seq ?_
        refine WCX.of ?_
        refine WC.region ?_
        refine WL.val1 (R_move (v := .pointer (some ⟨S_b, 0, none⟩)) rfl) ?_
        have hS24 : St Γ h (row (S_b) [.pointer (some ⟨D_b, 0, none⟩), .int .i64 (S.g0), .int .i64 (S.z0), .int .i64 (S.g1), .int .i64 (S.z1), .slice (S_files_a) (S.files).length (S_files_c)] 60 :: grow 29 RFile h (S.files) (S_files_a) (S_files_c) :: row (D_b) [.bool (D.is), .int .i64 (D.left), .int .i64 (D.n), .map (some (D_held_b)), .slice (D_pend_a) (D.pend).length (D_pend_c)] 78 :: mpG Mwr (D_held_b) (D.held) (D_held_k) :: grow 80 RWr h (D.pend) (D_pend_a) (D_pend_c) :: row (w.heap.size) [.int .i64 (0)] 31 :: emp :: emp :: emp :: emp :: emp :: L) w18 := (((((hS17.front (i := 5) rfl).front (i := 5) rfl).front (i := 5) rfl).front (i := 5) rfl).front (i := 5) rfl)
        refine S_callH (vs := [.pointer (some ⟨S_b, 0, none⟩)]) (A := fun hh_ => [row (S_b) [.pointer (some ⟨D_b, 0, none⟩), .int .i64 (S.g0), .int .i64 (S.z0), .int .i64 (S.g1), .int .i64 (S.z1), .slice (S_files_a) (S.files).length (S_files_c)] 60, grow 29 RFile hh_ (S.files) (S_files_a) (S_files_c), row (D_b) [.bool (D.is), .int .i64 (D.left), .int .i64 (D.n), .map (some (D_held_b)), .slice (D_pend_a) (D.pend).length (D_pend_c)] 78, mpG Mwr (D_held_b) (D.held) (D_held_k), grow 80 RWr hh_ (D.pend) (D_pend_a) (D_pend_c)]) (L := row (w.heap.size) [.int .i64 (0)] 31 :: emp :: emp :: emp :: emp :: emp :: L) hS24 Tryz.call27 rfl (by have k_ := (store_now (S) (S_b) (S_files_a) (S_files_c) (D) (D_b) (D_held_b) (D_held_k) (D_pend_a) (D_pend_c)); rw [hnw_] at k_; exact k_) (by exact trivial) ?_
        intro A25 v26 w23 hp27 hS22
        obtain ⟨rfl, rfl⟩ := hp27
        have hS22 : St Γ h (row (S_b) [.pointer (some ⟨D_b, 0, none⟩), .int .i64 (S.g0), .int .i64 (S.z0), .int .i64 (S.g1), .int .i64 (S.z1), .slice (S_files_a) (S.files).length (S_files_c)] 60 :: grow 29 RFile h (S.files) (S_files_a) (S_files_c) :: row (D_b) [.bool (D.is), .int .i64 (D.left), .int .i64 (D.n), .map (some (D_held_b)), .slice (D_pend_a) (D.pend).length (D_pend_c)] 78 :: mpG Mwr (D_held_b) (D.held) (D_held_k) :: grow 80 RWr h (D.pend) (D_pend_a) (D_pend_c) :: row (w.heap.size) [.int .i64 (0)] 31 :: emp :: emp :: emp :: emp :: emp :: L) w23 := hS22
        have hS28 : St Γ h (row (w.heap.size) [.int .i64 (0)] 31 :: row (S_b) [.pointer (some ⟨D_b, 0, none⟩), .int .i64 (S.g0), .int .i64 (S.z0), .int .i64 (S.g1), .int .i64 (S.z1), .slice (S_files_a) (S.files).length (S_files_c)] 60 :: grow 29 RFile h (S.files) (S_files_a) (S_files_c) :: row (D_b) [.bool (D.is), .int .i64 (D.left), .int .i64 (D.n), .map (some (D_held_b)), .slice (D_pend_a) (D.pend).length (D_pend_c)] 78 :: mpG Mwr (D_held_b) (D.held) (D_held_k) :: grow 80 RWr h (D.pend) (D_pend_a) (D_pend_c) :: L) w23 := (St.back2 (i := 5) (St.back2 (i := 5) (St.back2 (i := 5) (St.back2 (i := 5) (St.back2 (i := 5) hS22 rfl) rfl) rfl) rfl) rfl)
        refine WL.val1 (R_cast (v' := .int .i64 (0)) (R_sub_i (a := 1) (b := 1) rfl rfl (by omega)) (by rfl)) ?_
        refine WL.val1 (R_assign (v := .int .i64 (0)) rfl) ?_
        refine WL.nil ?_
        refine then_normal ?_
        refine WCX.seq ?_
        refine WCX.of ?_
        refine WC.draw2 (J0 := fun h_ w_ => St Γ h_ (row (w.heap.size) [.int .i64 (0)] 31 :: row (S_b) [.pointer (some ⟨D_b, 0, none⟩), .int .i64 (S.g0), .int .i64 (S.z0), .int .i64 (S.g1), .int .i64 (S.z1), .slice (S_files_a) (S.files).length (S_files_c)] 60 :: grow 29 RFile h (S.files) (S_files_a) (S_files_c) :: row (D_b) [.bool (D.is), .int .i64 (D.left), .int .i64 (D.n), .map (some (D_held_b)), .slice (D_pend_a) (D.pend).length (D_pend_c)] 78 :: mpG Mwr (D_held_b) (D.held) (D_held_k) :: grow 80 RWr h (D.pend) (D_pend_a) (D_pend_c) :: L) w_) (J1 := fun h_ v_ w_ => ∃ b_, v_ = .pointer (some ⟨b_, 0, none⟩) ∧ St Γ h_ (row (b_) [.int .i64 (0), .int .i64 (0)] 57 :: row (w.heap.size) [.int .i64 (0)] 31 :: row (S_b) [.pointer (some ⟨D_b, 0, none⟩), .int .i64 (S.g0), .int .i64 (S.z0), .int .i64 (S.g1), .int .i64 (S.z1), .slice (S_files_a) (S.files).length (S_files_c)] 60 :: grow 29 RFile h (S.files) (S_files_a) (S_files_c) :: row (D_b) [.bool (D.is), .int .i64 (D.left), .int .i64 (D.n), .map (some (D_held_b)), .slice (D_pend_a) (D.pend).length (D_pend_c)] 78 :: mpG Mwr (D_held_b) (D.held) (D_held_k) :: grow 80 RWr h (D.pend) (D_pend_a) (D_pend_c) :: L) w_) 18 17 7 [0, 1, 2, 3, 4, 5, 6, 7, 8, 9, 10, 11, 12, 13, 14, 15, 16] [(0, .pointer (some ⟨S_b, 0, none⟩)), (1, .slice (l_a) (l).length (l_c)), (4, .pointer (some ⟨w.heap.size, 0, none⟩)), (5, .string (B (filesS l))), (6, .int .i64 (0))] [fun _ v => v = .pointer (some ⟨S_b, 0, none⟩), fun _ v => v = .pointer (some ⟨S_b, 0, none⟩), fun _ v => v = .pointer (some ⟨S_b, 1, none⟩), fun _ v => v = .pointer (some ⟨S_b, 1, none⟩), fun _ v => v = .pointer (some ⟨S_b, 1, none⟩), fun _ v => v = .int .i64 (S.g0), fun _ v => v = .pointer (some ⟨S_b, 0, none⟩), fun _ v => v = .pointer (some ⟨S_b, 0, none⟩), fun _ v => v = .pointer (some ⟨S_b, 1, none⟩), fun _ v => v = .pointer (some ⟨S_b, 3, none⟩), fun _ v => v = .pointer (some ⟨S_b, 3, none⟩), fun _ v => v = .int .i64 (S.g1), fun _ v => v = .int .i64 ((max (S.g0) (S.g1))), fun _ v => v = .int .i64 (((max (S.g0) (S.g1)) + 1)), fun _ v => v = .string (B (filesS l)), fun _ v => v = .int .i64 ((((filesS l).length : Nat) : Int)), fun _ v => v = .agg #[.int .i64 (((max (S.g0) (S.g1)) + 1)), .int .i64 ((((filesS l).length : Nat) : Int))], fun _ _ => True] hS28 (fun _ _ _ e_ k_ => k_.ext e_) rfl (by decide) (by kernel_rfl) (by kernel_rfl) (by kernel_rfl) (MonoFs.pure (MonoFs.pure (MonoFs.pure (MonoFs.pure (MonoFs.pure (MonoFs.pure (MonoFs.pure (MonoFs.pure (MonoFs.pure (MonoFs.pure (MonoFs.pure (MonoFs.pure (MonoFs.pure (MonoFs.pure (MonoFs.pure (MonoFs.pure (MonoFs.pure (MonoFs.pure MonoFs.nil)))))))))))))))))) ⟨rfl, rfl, rfl, rfl, rfl, trivial⟩ ⟨?_, ?_, ?_, ?_, ?_, ?_, ?_, ?_, ?_, ?_, ?_, ?_, ?_, ?_, ?_, ?_, ?_, ?_, trivial⟩ ?_
        · refine step2_late (by decide) ?_ ?_
          · intro r_ w104 h105 hl106 hS103 hb_ hp_
            obtain ⟨b0_, b1_, b2_, b3_, b4_, _⟩ := hb_
            refine WL.val1 (R_move (v := .pointer (some ⟨S_b, 0, none⟩)) b0_) ?_
            refine WL.nil ?_
            exact ⟨rfl, _, _, rfl, (Hp.le_refl _), rfl, hS103⟩
          · intro r_ w108 h109 hl110 hJ_ hb_ hp_
            obtain ⟨b_, hv_, hS107⟩ := hJ_
            obtain ⟨b0_, b1_, b2_, b3_, b4_, _⟩ := hb_
            refine WL.val1 (R_move (v := .pointer (some ⟨S_b, 0, none⟩)) b0_) ?_
            refine WL.nil ?_
            exact ⟨rfl, _, _, rfl, (Hp.le_refl _), rfl, b_, hv_, hS107⟩
        · refine step2_late (by decide) ?_ ?_
          · intro r_ w112 h113 hl114 hS111 hb_ hp_
            obtain ⟨b0_, b1_, b2_, b3_, b4_, _⟩ := hb_
            obtain ⟨p0_, _⟩ := hp_
            have p0_ : r_ 26 = .pointer (some ⟨S_b, 0, none⟩) := p0_
            refine WL.val1 (R_nilCheck p0_) ?_
            refine WL.nil ?_
            exact ⟨rfl, _, _, rfl, (Hp.le_refl _), rfl, hS111⟩
          · intro r_ w116 h117 hl118 hJ_ hb_ hp_
            obtain ⟨b_, hv_, hS115⟩ := hJ_
            obtain ⟨b0_, b1_, b2_, b3_, b4_, _⟩ := hb_
            obtain ⟨p0_, _⟩ := hp_
            have p0_ : r_ 26 = .pointer (some ⟨S_b, 0, none⟩) := p0_
            refine WL.val1 (R_nilCheck p0_) ?_
            refine WL.nil ?_
            exact ⟨rfl, _, _, rfl, (Hp.le_refl _), rfl, b_, hv_, hS115⟩
        · refine step2_late (by decide) ?_ ?_
          · intro r_ w120 h121 hl122 hS119 hb_ hp_
            obtain ⟨b0_, b1_, b2_, b3_, b4_, _⟩ := hb_
            obtain ⟨p0_, _⟩ := hp_
            have p0_ : r_ 27 = .pointer (some ⟨S_b, 0, none⟩) := p0_
            refine WL.val1 (R_fieldAddr (b := S_b) (off := 0) (m := 1) p0_ (fun _ => by kernel_rfl)) ?_
            refine WL.nil ?_
            exact ⟨rfl, _, _, rfl, (Hp.le_refl _), rfl, hS119⟩
          · intro r_ w124 h125 hl126 hJ_ hb_ hp_
            obtain ⟨b_, hv_, hS123⟩ := hJ_
            obtain ⟨b0_, b1_, b2_, b3_, b4_, _⟩ := hb_
            obtain ⟨p0_, _⟩ := hp_
            have p0_ : r_ 27 = .pointer (some ⟨S_b, 0, none⟩) := p0_
            refine WL.val1 (R_fieldAddr (b := S_b) (off := 0) (m := 1) p0_ (fun _ => by kernel_rfl)) ?_
            refine WL.nil ?_
            exact ⟨rfl, _, _, rfl, (Hp.le_refl _), rfl, b_, hv_, hS123⟩
        · refine step2_late (by decide) ?_ ?_
          · intro r_ w128 h129 hl130 hS127 hb_ hp_
            obtain ⟨b0_, b1_, b2_, b3_, b4_, _⟩ := hb_
            obtain ⟨p0_, _⟩ := hp_
            have p0_ : r_ 28 = .pointer (some ⟨S_b, 1, none⟩) := p0_
            refine WL.val1 (R_indexArr (b := S_b) (o := 1) (i := 0) (m := 0) p0_ rfl Tryz.underlying58 (Tryz.sizeOf57 _) rfl (by decide)) ?_
            refine WL.nil ?_
            exact ⟨rfl, _, _, rfl, (Hp.le_refl _), rfl, hS127⟩
          · intro r_ w132 h133 hl134 hJ_ hb_ hp_
            obtain ⟨b_, hv_, hS131⟩ := hJ_
            obtain ⟨b0_, b1_, b2_, b3_, b4_, _⟩ := hb_
            obtain ⟨p0_, _⟩ := hp_
            have p0_ : r_ 28 = .pointer (some ⟨S_b, 1, none⟩) := p0_
            refine WL.val1 (R_indexArr (b := S_b) (o := 1) (i := 0) (m := 0) p0_ rfl Tryz.underlying58 (Tryz.sizeOf57 _) rfl (by decide)) ?_
            refine WL.nil ?_
            exact ⟨rfl, _, _, rfl, (Hp.le_refl _), rfl, b_, hv_, hS131⟩
        · refine step2_late (by decide) ?_ ?_
          · intro r_ w136 h137 hl138 hS135 hb_ hp_
            obtain ⟨b0_, b1_, b2_, b3_, b4_, _⟩ := hb_
            obtain ⟨p0_, _⟩ := hp_
            have p0_ : r_ 29 = .pointer (some ⟨S_b, 1, none⟩) := p0_
            refine WL.val1 (R_fieldAddr (b := S_b) (off := 1) (m := 0) p0_ (fun _ => by kernel_rfl)) ?_
            refine WL.nil ?_
            exact ⟨rfl, _, _, rfl, (Hp.le_refl _), rfl, hS135⟩
          · intro r_ w140 h141 hl142 hJ_ hb_ hp_
            obtain ⟨b_, hv_, hS139⟩ := hJ_
            obtain ⟨b0_, b1_, b2_, b3_, b4_, _⟩ := hb_
            obtain ⟨p0_, _⟩ := hp_
            have p0_ : r_ 29 = .pointer (some ⟨S_b, 1, none⟩) := p0_
            refine WL.val1 (R_fieldAddr (b := S_b) (off := 1) (m := 0) p0_ (fun _ => by kernel_rfl)) ?_
            refine WL.nil ?_
            exact ⟨rfl, _, _, rfl, (Hp.le_refl _), rfl, b_, hv_, hS139⟩
        · refine step2_late (by decide) ?_ ?_
          · intro r_ w144 h145 hl146 hS143 hb_ hp_
            obtain ⟨b0_, b1_, b2_, b3_, b4_, _⟩ := hb_
            obtain ⟨p0_, _⟩ := hp_
            have p0_ : r_ 30 = .pointer (some ⟨S_b, 1, none⟩) := p0_
            refine WL.val1 (R_load (v := .int .i64 (S.g0)) p0_ (hS143.has (i := 1) rfl) (Tryz.isAgg3 _) rfl) ?_
            refine WL.nil ?_
            exact ⟨rfl, _, _, rfl, (Hp.le_refl _), rfl, hS143⟩
          · intro r_ w148 h149 hl150 hJ_ hb_ hp_
            obtain ⟨b_, hv_, hS147⟩ := hJ_
            obtain ⟨b0_, b1_, b2_, b3_, b4_, _⟩ := hb_
            obtain ⟨p0_, _⟩ := hp_
            have p0_ : r_ 30 = .pointer (some ⟨S_b, 1, none⟩) := p0_
            refine WL.val1 (R_load (v := .int .i64 (S.g0)) p0_ (hS147.has (i := 2) rfl) (Tryz.isAgg3 _) rfl) ?_
            refine WL.nil ?_
            exact ⟨rfl, _, _, rfl, (Hp.le_refl _), rfl, b_, hv_, hS147⟩
        · refine step2_late (by decide) ?_ ?_
          · intro r_ w152 h153 hl154 hS151 hb_ hp_
            obtain ⟨b0_, b1_, b2_, b3_, b4_, _⟩ := hb_
            refine WL.val1 (R_move (v := .pointer (some ⟨S_b, 0, none⟩)) b0_) ?_
            refine WL.nil ?_
            exact ⟨rfl, _, _, rfl, (Hp.le_refl _), rfl, hS151⟩
          · intro r_ w156 h157 hl158 hJ_ hb_ hp_
            obtain ⟨b_, hv_, hS155⟩ := hJ_
            obtain ⟨b0_, b1_, b2_, b3_, b4_, _⟩ := hb_
            refine WL.val1 (R_move (v := .pointer (some ⟨S_b, 0, none⟩)) b0_) ?_
            refine WL.nil ?_
            exact ⟨rfl, _, _, rfl, (Hp.le_refl _), rfl, b_, hv_, hS155⟩
        · refine step2_late (by decide) ?_ ?_
          · intro r_ w160 h161 hl162 hS159 hb_ hp_
            obtain ⟨b0_, b1_, b2_, b3_, b4_, _⟩ := hb_
            obtain ⟨p0_, _⟩ := hp_
            have p0_ : r_ 32 = .pointer (some ⟨S_b, 0, none⟩) := p0_
            refine WL.val1 (R_nilCheck p0_) ?_
            refine WL.nil ?_
            exact ⟨rfl, _, _, rfl, (Hp.le_refl _), rfl, hS159⟩
          · intro r_ w164 h165 hl166 hJ_ hb_ hp_
            obtain ⟨b_, hv_, hS163⟩ := hJ_
            obtain ⟨b0_, b1_, b2_, b3_, b4_, _⟩ := hb_
            obtain ⟨p0_, _⟩ := hp_
            have p0_ : r_ 32 = .pointer (some ⟨S_b, 0, none⟩) := p0_
            refine WL.val1 (R_nilCheck p0_) ?_
            refine WL.nil ?_
            exact ⟨rfl, _, _, rfl, (Hp.le_refl _), rfl, b_, hv_, hS163⟩
        · refine step2_late (by decide) ?_ ?_
          · intro r_ w168 h169 hl170 hS167 hb_ hp_
            obtain ⟨b0_, b1_, b2_, b3_, b4_, _⟩ := hb_
            obtain ⟨p0_, _⟩ := hp_
            have p0_ : r_ 33 = .pointer (some ⟨S_b, 0, none⟩) := p0_
            refine WL.val1 (R_fieldAddr (b := S_b) (off := 0) (m := 1) p0_ (fun _ => by kernel_rfl)) ?_
            refine WL.nil ?_
            exact ⟨rfl, _, _, rfl, (Hp.le_refl _), rfl, hS167⟩
          · intro r_ w172 h173 hl174 hJ_ hb_ hp_
            obtain ⟨b_, hv_, hS171⟩ := hJ_
            obtain ⟨b0_, b1_, b2_, b3_, b4_, _⟩ := hb_
            obtain ⟨p0_, _⟩ := hp_
            have p0_ : r_ 33 = .pointer (some ⟨S_b, 0, none⟩) := p0_
            refine WL.val1 (R_fieldAddr (b := S_b) (off := 0) (m := 1) p0_ (fun _ => by kernel_rfl)) ?_
            refine WL.nil ?_
            exact ⟨rfl, _, _, rfl, (Hp.le_refl _), rfl, b_, hv_, hS171⟩
        · refine step2_late (by decide) ?_ ?_
          · intro r_ w176 h177 hl178 hS175 hb_ hp_
            obtain ⟨b0_, b1_, b2_, b3_, b4_, _⟩ := hb_
            obtain ⟨p0_, _⟩ := hp_
            have p0_ : r_ 34 = .pointer (some ⟨S_b, 1, none⟩) := p0_
            refine WL.val1 (R_indexArr (b := S_b) (o := 1) (i := 1) (m := 1) p0_ rfl Tryz.underlying58 (Tryz.sizeOf57 _) rfl (by decide)) ?_
            refine WL.nil ?_
            exact ⟨rfl, _, _, rfl, (Hp.le_refl _), rfl, hS175⟩
          · intro r_ w180 h181 hl182 hJ_ hb_ hp_
            obtain ⟨b_, hv_, hS179⟩ := hJ_
            obtain ⟨b0_, b1_, b2_, b3_, b4_, _⟩ := hb_
            obtain ⟨p0_, _⟩ := hp_
            have p0_ : r_ 34 = .pointer (some ⟨S_b, 1, none⟩) := p0_
            refine WL.val1 (R_indexArr (b := S_b) (o := 1) (i := 1) (m := 1) p0_ rfl Tryz.underlying58 (Tryz.sizeOf57 _) rfl (by decide)) ?_
            refine WL.nil ?_
            exact ⟨rfl, _, _, rfl, (Hp.le_refl _), rfl, b_, hv_, hS179⟩
        · refine step2_late (by decide) ?_ ?_
          · intro r_ w184 h185 hl186 hS183 hb_ hp_
            obtain ⟨b0_, b1_, b2_, b3_, b4_, _⟩ := hb_
            obtain ⟨p0_, _⟩ := hp_
            have p0_ : r_ 35 = .pointer (some ⟨S_b, 3, none⟩) := p0_
            refine WL.val1 (R_fieldAddr (b := S_b) (off := 3) (m := 0) p0_ (fun _ => by kernel_rfl)) ?_
            refine WL.nil ?_
            exact ⟨rfl, _, _, rfl, (Hp.le_refl _), rfl, hS183⟩
          · intro r_ w188 h189 hl190 hJ_ hb_ hp_
            obtain ⟨b_, hv_, hS187⟩ := hJ_
            obtain ⟨b0_, b1_, b2_, b3_, b4_, _⟩ := hb_
            obtain ⟨p0_, _⟩ := hp_
            have p0_ : r_ 35 = .pointer (some ⟨S_b, 3, none⟩) := p0_
            refine WL.val1 (R_fieldAddr (b := S_b) (off := 3) (m := 0) p0_ (fun _ => by kernel_rfl)) ?_
            refine WL.nil ?_
            exact ⟨rfl, _, _, rfl, (Hp.le_refl _), rfl, b_, hv_, hS187⟩
        · refine step2_late (by decide) ?_ ?_
          · intro r_ w192 h193 hl194 hS191 hb_ hp_
            obtain ⟨b0_, b1_, b2_, b3_, b4_, _⟩ := hb_
            obtain ⟨p0_, _⟩ := hp_
            have p0_ : r_ 36 = .pointer (some ⟨S_b, 3, none⟩) := p0_
            refine WL.val1 (R_load (v := .int .i64 (S.g1)) p0_ (hS191.has (i := 1) rfl) (Tryz.isAgg3 _) rfl) ?_
            refine WL.nil ?_
            exact ⟨rfl, _, _, rfl, (Hp.le_refl _), rfl, hS191⟩
          · intro r_ w196 h197 hl198 hJ_ hb_ hp_
            obtain ⟨b_, hv_, hS195⟩ := hJ_
            obtain ⟨b0_, b1_, b2_, b3_, b4_, _⟩ := hb_
            obtain ⟨p0_, _⟩ := hp_
            have p0_ : r_ 36 = .pointer (some ⟨S_b, 3, none⟩) := p0_
            refine WL.val1 (R_load (v := .int .i64 (S.g1)) p0_ (hS195.has (i := 2) rfl) (Tryz.isAgg3 _) rfl) ?_
            refine WL.nil ?_
            exact ⟨rfl, _, _, rfl, (Hp.le_refl _), rfl, b_, hv_, hS195⟩
        · refine step2_late (by decide) ?_ ?_
          · intro r_ w200 h201 hl202 hS199 hb_ hp_
            obtain ⟨b0_, b1_, b2_, b3_, b4_, _⟩ := hb_
            obtain ⟨p0_, p1_, _⟩ := hp_
            have p0_ : r_ 31 = .int .i64 (S.g0) := p0_
            have p1_ : r_ 37 = .int .i64 (S.g1) := p1_
            refine WL.val1 (R_max (a := S.g0) (b := S.g1) p0_ p1_) ?_
            refine WL.nil ?_
            exact ⟨rfl, _, _, rfl, (Hp.le_refl _), rfl, hS199⟩
          · intro r_ w204 h205 hl206 hJ_ hb_ hp_
            obtain ⟨b_, hv_, hS203⟩ := hJ_
            obtain ⟨b0_, b1_, b2_, b3_, b4_, _⟩ := hb_
            obtain ⟨p0_, p1_, _⟩ := hp_
            have p0_ : r_ 31 = .int .i64 (S.g0) := p0_
            have p1_ : r_ 37 = .int .i64 (S.g1) := p1_
            refine WL.val1 (R_max (a := S.g0) (b := S.g1) p0_ p1_) ?_
            refine WL.nil ?_
            exact ⟨rfl, _, _, rfl, (Hp.le_refl _), rfl, b_, hv_, hS203⟩
        · refine step2_late (by decide) ?_ ?_
          · intro r_ w208 h209 hl210 hS207 hb_ hp_
            obtain ⟨b0_, b1_, b2_, b3_, b4_, _⟩ := hb_
            obtain ⟨p0_, _⟩ := hp_
            have p0_ : r_ 38 = .int .i64 ((max (S.g0) (S.g1))) := p0_
            refine WL.val1 (R_add_i (a := (max (S.g0) (S.g1))) (b := 1) p0_ rfl (by omega)) ?_
            refine WL.nil ?_
            exact ⟨rfl, _, _, rfl, (Hp.le_refl _), rfl, hS207⟩
          · intro r_ w212 h213 hl214 hJ_ hb_ hp_
            obtain ⟨b_, hv_, hS211⟩ := hJ_
            obtain ⟨b0_, b1_, b2_, b3_, b4_, _⟩ := hb_
            obtain ⟨p0_, _⟩ := hp_
            have p0_ : r_ 38 = .int .i64 ((max (S.g0) (S.g1))) := p0_
            refine WL.val1 (R_add_i (a := (max (S.g0) (S.g1))) (b := 1) p0_ rfl (by omega)) ?_
            refine WL.nil ?_
            exact ⟨rfl, _, _, rfl, (Hp.le_refl _), rfl, b_, hv_, hS211⟩
        · refine step2_late (by decide) ?_ ?_
          · intro r_ w216 h217 hl218 hS215 hb_ hp_
            obtain ⟨b0_, b1_, b2_, b3_, b4_, _⟩ := hb_
            refine WL.val1 (R_move (v := .string (B (filesS l))) b3_) ?_
            refine WL.nil ?_
            exact ⟨rfl, _, _, rfl, (Hp.le_refl _), rfl, hS215⟩
          · intro r_ w220 h221 hl222 hJ_ hb_ hp_
            obtain ⟨b_, hv_, hS219⟩ := hJ_
            obtain ⟨b0_, b1_, b2_, b3_, b4_, _⟩ := hb_
            refine WL.val1 (R_move (v := .string (B (filesS l))) b3_) ?_
            refine WL.nil ?_
            exact ⟨rfl, _, _, rfl, (Hp.le_refl _), rfl, b_, hv_, hS219⟩
        · refine step2_late (by decide) ?_ ?_
          · intro r_ w224 h225 hl226 hS223 hb_ hp_
            obtain ⟨b0_, b1_, b2_, b3_, b4_, _⟩ := hb_
            obtain ⟨p0_, _⟩ := hp_
            have p0_ : r_ 40 = .string (B (filesS l)) := p0_
            refine WL.val1 (R_slen (a := filesS l) p0_ Tryz.underlying9) ?_
            refine WL.nil ?_
            exact ⟨rfl, _, _, rfl, (Hp.le_refl _), rfl, hS223⟩
          · intro r_ w228 h229 hl230 hJ_ hb_ hp_
            obtain ⟨b_, hv_, hS227⟩ := hJ_
            obtain ⟨b0_, b1_, b2_, b3_, b4_, _⟩ := hb_
            obtain ⟨p0_, _⟩ := hp_
            have p0_ : r_ 40 = .string (B (filesS l)) := p0_
            refine WL.val1 (R_slen (a := filesS l) p0_ Tryz.underlying9) ?_
            refine WL.nil ?_
            exact ⟨rfl, _, _, rfl, (Hp.le_refl _), rfl, b_, hv_, hS227⟩
        · refine step2_late (by decide) ?_ ?_
          · intro r_ w232 h233 hl234 hS231 hb_ hp_
            obtain ⟨b0_, b1_, b2_, b3_, b4_, _⟩ := hb_
            obtain ⟨p0_, p1_, _⟩ := hp_
            have p0_ : r_ 39 = .int .i64 (((max (S.g0) (S.g1)) + 1)) := p0_
            have p1_ : r_ 41 = .int .i64 ((((filesS l).length : Nat) : Int)) := p1_
            refine WL.val1 (R_build (vs := [(0, .int .i64 (((max (S.g0) (S.g1)) + 1))), (1, .int .i64 ((((filesS l).length : Nat) : Int)))]) (v := .agg #[.int .i64 (((max (S.g0) (S.g1)) + 1)), .int .i64 ((((filesS l).length : Nat) : Int))]) (pmap2 p0_ p1_) (fun _ => by kernel_rfl)) ?_
            refine WL.nil ?_
            exact ⟨rfl, _, _, rfl, (Hp.le_refl _), rfl, hS231⟩
          · intro r_ w236 h237 hl238 hJ_ hb_ hp_
            obtain ⟨b_, hv_, hS235⟩ := hJ_
            obtain ⟨b0_, b1_, b2_, b3_, b4_, _⟩ := hb_
            obtain ⟨p0_, p1_, _⟩ := hp_
            have p0_ : r_ 39 = .int .i64 (((max (S.g0) (S.g1)) + 1)) := p0_
            have p1_ : r_ 41 = .int .i64 ((((filesS l).length : Nat) : Int)) := p1_
            refine WL.val1 (R_build (vs := [(0, .int .i64 (((max (S.g0) (S.g1)) + 1))), (1, .int .i64 ((((filesS l).length : Nat) : Int)))]) (v := .agg #[.int .i64 (((max (S.g0) (S.g1)) + 1)), .int .i64 ((((filesS l).length : Nat) : Int))]) (pmap2 p0_ p1_) (fun _ => by kernel_rfl)) ?_
            refine WL.nil ?_
            exact ⟨rfl, _, _, rfl, (Hp.le_refl _), rfl, b_, hv_, hS235⟩
        · refine step2_s (by decide) ?_
          · intro r_ w240 h241 hl242 hS239 hb_ hp_
            obtain ⟨b0_, b1_, b2_, b3_, b4_, _⟩ := hb_
            refine S_alloc hS239 Tryz.zeroValue57 ?_
            intro w244 hS243
            refine WL.nil ?_
            exact ⟨rfl, _, _, rfl, (Hp.le_refl _), trivial, w240.heap.size, rfl, hS243⟩
        · intro r_ w246 h247 hl248 hJ_ hb_ hf_
          obtain ⟨a249, qs_, hS245⟩ := hJ_
          obtain ⟨b0_, b1_, b2_, b3_, b4_, _⟩ := hb_
          have q16_ := AF.get hf_ 16 (d := 42) rfl rfl
          refine WL.frame [(0, .pointer (some ⟨S_b, 0, none⟩)), (1, .slice (l_a) (l).length (l_c)), (4, .pointer (some ⟨w.heap.size, 0, none⟩)), (5, .string (B (filesS l))), (6, .int .i64 (0)), (7, .pointer (some ⟨a249, 0, none⟩)), (42, .agg #[.int .i64 (((max (S.g0) (S.g1)) + 1)), .int .i64 ((((filesS l).length : Nat) : Int))])] ⟨b0_, b1_, b2_, b3_, b4_, qs_, q16_, trivial⟩ (fun r_ => ?_)
          refine S_store (i := 0) (b := a249) (l := [.int .i64 (0), .int .i64 (0)]) (l' := [.int .i64 (((max (S.g0) (S.g1)) + 1)), .int .i64 ((((filesS l).length : Nat) : Int))]) (vs := [.int .i64 (((max (S.g0) (S.g1)) + 1)), .int .i64 ((((filesS l).length : Nat) : Int))]) (v := .agg #[.int .i64 (((max (S.g0) (S.g1)) + 1)), .int .i64 ((((filesS l).length : Nat) : Int))]) hS245 rfl rfl rfl Tryz.sizeOf57 rfl rfl rfl (Nat.le_of_ble_eq_true rfl) rfl rfl ?_
          intro w252 hS251
          refine WL.nil ?_
          refine then_normal ?_
          refine WCX.seq ?_
          refine WCX.of ?_
          refine WC.region ?_
          refine WL.val1 (R_move (v := .pointer (some ⟨S_b, 0, none⟩)) rfl) ?_
          refine WL.val1 (R_move (v := .int .i64 (0)) rfl) ?_
          refine WL.val1 (R_move (v := .string (B (filesS l))) rfl) ?_
          have hS255 := hS251.growMono (i := 3) rfl hl248
          have hS256 := hS255.growMono (i := 6) rfl hl248
          have hS257 : St Γ h247 (row (S_b) [.pointer (some ⟨D_b, 0, none⟩), .int .i64 (S.g0), .int .i64 (S.z0), .int .i64 (S.g1), .int .i64 (S.z1), .slice (S_files_a) (S.files).length (S_files_c)] 60 :: grow 29 RFile h247 (S.files) (S_files_a) (S_files_c) :: row (D_b) [.bool (D.is), .int .i64 (D.left), .int .i64 (D.n), .map (some (D_held_b)), .slice (D_pend_a) (D.pend).length (D_pend_c)] 78 :: mpG Mwr (D_held_b) (D.held) (D_held_k) :: grow 80 RWr h247 (D.pend) (D_pend_a) (D_pend_c) :: row (a249) [.int .i64 (((max (S.g0) (S.g1)) + 1)), .int .i64 ((((filesS l).length : Nat) : Int))] 57 :: row (w.heap.size) [.int .i64 (0)] 31 :: emp :: emp :: emp :: emp :: emp :: L) w252 := (((((hS256.front (i := 6) rfl).front (i := 6) rfl).front (i := 6) rfl).front (i := 6) rfl).front (i := 6) rfl)
          refine S_callX (vs := [.pointer (some ⟨S_b, 0, none⟩), .int .i64 (0), .string (B (filesS l))]) (A := fun hh_ => [row (S_b) [.pointer (some ⟨D_b, 0, none⟩), .int .i64 (S.g0), .int .i64 (S.z0), .int .i64 (S.g1), .int .i64 (S.z1), .slice (S_files_a) (S.files).length (S_files_c)] 60, grow 29 RFile hh_ (S.files) (S_files_a) (S_files_c), row (D_b) [.bool (D.is), .int .i64 (D.left), .int .i64 (D.n), .map (some (D_held_b)), .slice (D_pend_a) (D.pend).length (D_pend_c)] 78, mpG Mwr (D_held_b) (D.held) (D_held_k), grow 80 RWr hh_ (D.pend) (D_pend_a) (D_pend_c)]) (L := row (a249) [.int .i64 (((max (S.g0) (S.g1)) + 1)), .int .i64 ((((filesS l).length : Nat) : Int))] 57 :: row (w.heap.size) [.int .i64 (0)] 31 :: emp :: emp :: emp :: emp :: emp :: L) hS257 Tryz.call28 rfl (store_lay (S) (S_b) (S_files_a) (S_files_c) (D) (D_b) (D_held_b) (D_held_k) (D_pend_a) (D_pend_c) (0) (filesS l) (by first | assumption | omega | exact rightS_sz hr_ | (have := hlp_ 0; have := hlp_ 1; omega) | (dsimp only; omega) | (have := hlp_ 0; have := hlp_ 1; have q_ := wrD_pend (layS D 0 (filesS l)).1 0 (hdText (max S.g0 S.g1 + 1) ((filesS l).length : Nat)); have q2_ := wrD_pend (layS D 1 (filesS l)).1 1 (hdText (max S.g0 S.g1 + 1) ((filesS l).length : Nat)); omega)) (by first | assumption | omega | exact rightS_sz hr_ | (have := hlp_ 0; have := hlp_ 1; omega) | (dsimp only; omega) | (have := hlp_ 0; have := hlp_ 1; have q_ := wrD_pend (layS D 0 (filesS l)).1 0 (hdText (max S.g0 S.g1 + 1) ((filesS l).length : Nat)); have q2_ := wrD_pend (layS D 1 (filesS l)).1 1 (hdText (max S.g0 S.g1 + 1) ((filesS l).length : Nat)); omega)) (by first | assumption | omega | exact rightS_sz hr_ | (have := hlp_ 0; have := hlp_ 1; omega) | (dsimp only; omega) | (have := hlp_ 0; have := hlp_ 1; have q_ := wrD_pend (layS D 0 (filesS l)).1 0 (hdText (max S.g0 S.g1 + 1) ((filesS l).length : Nat)); have q2_ := wrD_pend (layS D 1 (filesS l)).1 1 (hdText (max S.g0 S.g1 + 1) ((filesS l).length : Nat)); omega)) (by first | assumption | omega | exact rightS_sz hr_ | (have := hlp_ 0; have := hlp_ 1; omega) | (dsimp only; omega) | (have := hlp_ 0; have := hlp_ 1; have q_ := wrD_pend (layS D 0 (filesS l)).1 0 (hdText (max S.g0 S.g1 + 1) ((filesS l).length : Nat)); have q2_ := wrD_pend (layS D 1 (filesS l)).1 1 (hdText (max S.g0 S.g1 + 1) ((filesS l).length : Nat)); omega))) trivial ?_ ?_
          · intro A261 c262 w263 hp264 hS265
            obtain ⟨D_held_k1266, D_pend_a1267, D_pend_c1268, rfl, rfl, hf269⟩ := hp264
            have hS265 : St Γ h247 (row (S_b) [.pointer (some ⟨D_b, 0, none⟩), .int .i64 (S.g0), .int .i64 (S.z0), .int .i64 (S.g1), .int .i64 (S.z1), .slice (S_files_a) (S.files).length (S_files_c)] 60 :: grow 29 RFile h247 (S.files) (S_files_a) (S_files_c) :: row (D_b) [.bool (((layS D 0 (filesS l)).1).is), .int .i64 (((layS D 0 (filesS l)).1).left), .int .i64 (((layS D 0 (filesS l)).1).n), .map (some (D_held_b)), .slice (D_pend_a1267) (((layS D 0 (filesS l)).1).pend).length (D_pend_c1268)] 78 :: mpG Mwr (D_held_b) (((layS D 0 (filesS l)).1).held) (D_held_k1266) :: grow 80 RWr h247 (((layS D 0 (filesS l)).1).pend) (D_pend_a1267) (D_pend_c1268) :: row (a249) [.int .i64 (((max (S.g0) (S.g1)) + 1)), .int .i64 ((((filesS l).length : Nat) : Int))] 57 :: row (w.heap.size) [.int .i64 (0)] 31 :: emp :: emp :: emp :: emp :: emp :: L) w263 := hS265
            have hS270 : St Γ h247 (row (a249) [.int .i64 (((max (S.g0) (S.g1)) + 1)), .int .i64 ((((filesS l).length : Nat) : Int))] 57 :: row (w.heap.size) [.int .i64 (0)] 31 :: row (S_b) [.pointer (some ⟨D_b, 0, none⟩), .int .i64 (S.g0), .int .i64 (S.z0), .int .i64 (S.g1), .int .i64 (S.z1), .slice (S_files_a) (S.files).length (S_files_c)] 60 :: grow 29 RFile h247 (S.files) (S_files_a) (S_files_c) :: row (D_b) [.bool (((layS D 0 (filesS l)).1).is), .int .i64 (((layS D 0 (filesS l)).1).left), .int .i64 (((layS D 0 (filesS l)).1).n), .map (some (D_held_b)), .slice (D_pend_a1267) (((layS D 0 (filesS l)).1).pend).length (D_pend_c1268)] 78 :: mpG Mwr (D_held_b) (((layS D 0 (filesS l)).1).held) (D_held_k1266) :: grow 80 RWr h247 (((layS D 0 (filesS l)).1).pend) (D_pend_a1267) (D_pend_c1268) :: L) w263 := (St.back2 (i := 6) (St.back2 (i := 6) (St.back2 (i := 6) (St.back2 (i := 6) (St.back2 (i := 6) hS265 rfl) rfl) rfl) rfl) rfl)
            refine then_panic ?_
            refine topD_one (K := fun w_ => St Γ h247 (row (a249) [.int .i64 (((max (S.g0) (S.g1)) + 1)), .int .i64 ((((filesS l).length : Nat) : Int))] 57 :: row (w.heap.size) [.int .i64 ((layS D 0 (filesS l)).2)] 31 :: row (S_b) [.pointer (some ⟨D_b, 0, none⟩), .int .i64 (S.g0), .int .i64 (S.z0), .int .i64 (S.g1), .int .i64 (S.z1), .slice (S_files_a) (S.files).length (S_files_c)] 60 :: grow 29 RFile h247 (S.files) (S_files_a) (S_files_c) :: row (D_b) [.bool (((layS D 0 (filesS l)).1).is), .int .i64 (((layS D 0 (filesS l)).1).left), .int .i64 (((layS D 0 (filesS l)).1).n), .map (some (D_held_b)), .slice (D_pend_a1267) (((layS D 0 (filesS l)).1).pend).length (D_pend_c1268)] 78 :: mpG Mwr (D_held_b) (((layS D 0 (filesS l)).1).held) (D_held_k1266) :: grow 80 RWr h247 (((layS D 0 (filesS l)).1).pend) (D_pend_a1267) (D_pend_c1268) :: L) w_) (.inr ⟨_, rfl, rfl⟩) (fun w_ => invoke_func 26 _ Tryz.call26 w_) (CallsD.mono (rec_pan hS270 (i := 1) rfl) (fun _ _ _ q_ => ⟨q_.1, by rw [q_.2.1]; rfl, q_.2.2⟩)) ?_
            intro w271 hS272
            refine ⟨.int .i64 ((layS D 0 (filesS l)).2), givesL1 (vs := [.int .i64 ((layS D 0 (filesS l)).2)]) rfl ⟨⟨w.heap.size, 0, rfl, loadVar1 (hS272.has (i := 1) rfl) (Tryz.isAgg31 _) rfl⟩, trivial⟩ rfl, ?_⟩
            have e_ := comS_lay hr_ c1 hat_ (by assumption)
            have hS273 : St Γ h247 (row (S_b) [.pointer (some ⟨D_b, 0, none⟩), .int .i64 (S.g0), .int .i64 (S.z0), .int .i64 (S.g1), .int .i64 (S.z1), .slice (S_files_a) (S.files).length (S_files_c)] 60 :: grow 29 RFile h247 (S.files) (S_files_a) (S_files_c) :: row (D_b) [.bool (((layS D 0 (filesS l)).1).is), .int .i64 (((layS D 0 (filesS l)).1).left), .int .i64 (((layS D 0 (filesS l)).1).n), .map (some (D_held_b)), .slice (D_pend_a1267) (((layS D 0 (filesS l)).1).pend).length (D_pend_c1268)] 78 :: mpG Mwr (D_held_b) (((layS D 0 (filesS l)).1).held) (D_held_k1266) :: grow 80 RWr h247 (((layS D 0 (filesS l)).1).pend) (D_pend_a1267) (D_pend_c1268) :: L) w271 := (((((((hS272.move (i := 6) rfl).move (i := 6) rfl).move (i := 6) rfl).move (i := 6) rfl).move (i := 6) rfl).remove 6).remove 5)
            exact ⟨[row (S_b) [.pointer (some ⟨D_b, 0, none⟩), .int .i64 (S.g0), .int .i64 (S.z0), .int .i64 (S.g1), .int .i64 (S.z1), .slice (S_files_a) (S.files).length (S_files_c)] 60, grow 29 RFile h (S.files) (S_files_a) (S_files_c), row (D_b) [.bool (((layS D 0 (filesS l)).1).is), .int .i64 (((layS D 0 (filesS l)).1).left), .int .i64 (((layS D 0 (filesS l)).1).n), .map (some (D_held_b)), .slice (D_pend_a1267) (((layS D 0 (filesS l)).1).pend).length (D_pend_c1268)] 78, mpG Mwr (D_held_b) (((layS D 0 (filesS l)).1).held) (D_held_k1266), grow 80 RWr h (((layS D 0 (filesS l)).1).pend) (D_pend_a1267) (D_pend_c1268)], ⟨S_files_a, S_files_c, D_held_k1266, D_pend_a1267, D_pend_c1268, (by first | rfl | (rw [e_]; done) | (rw [e_]; rfl)), (by first | rfl | (rw [e_]; done) | (rw [e_]; rfl))⟩, (((hS273.growFree (i := 1) h RFile_free rfl).growFree (i := 4) h RWr_free rfl).weaken_h hl248)⟩
          intro A258 v259 w254 hp260 hS253
          obtain ⟨D_held_k1274, D_pend_a1275, D_pend_c1276, rfl, rfl, hf277⟩ := hp260
          have hS253 : St Γ h247 (row (S_b) [.pointer (some ⟨D_b, 0, none⟩), .int .i64 (S.g0), .int .i64 (S.z0), .int .i64 (S.g1), .int .i64 (S.z1), .slice (S_files_a) (S.files).length (S_files_c)] 60 :: grow 29 RFile h247 (S.files) (S_files_a) (S_files_c) :: row (D_b) [.bool (((layS D 0 (filesS l)).1).is), .int .i64 (((layS D 0 (filesS l)).1).left), .int .i64 (((layS D 0 (filesS l)).1).n), .map (some (D_held_b)), .slice (D_pend_a1275) (((layS D 0 (filesS l)).1).pend).length (D_pend_c1276)] 78 :: mpG Mwr (D_held_b) (((layS D 0 (filesS l)).1).held) (D_held_k1274) :: grow 80 RWr h247 (((layS D 0 (filesS l)).1).pend) (D_pend_a1275) (D_pend_c1276) :: row (a249) [.int .i64 (((max (S.g0) (S.g1)) + 1)), .int .i64 ((((filesS l).length : Nat) : Int))] 57 :: row (w.heap.size) [.int .i64 (0)] 31 :: emp :: emp :: emp :: emp :: emp :: L) w254 := hS253
          have hS278 : St Γ h247 (row (a249) [.int .i64 (((max (S.g0) (S.g1)) + 1)), .int .i64 ((((filesS l).length : Nat) : Int))] 57 :: row (w.heap.size) [.int .i64 (0)] 31 :: row (S_b) [.pointer (some ⟨D_b, 0, none⟩), .int .i64 (S.g0), .int .i64 (S.z0), .int .i64 (S.g1), .int .i64 (S.z1), .slice (S_files_a) (S.files).length (S_files_c)] 60 :: grow 29 RFile h247 (S.files) (S_files_a) (S_files_c) :: row (D_b) [.bool (((layS D 0 (filesS l)).1).is), .int .i64 (((layS D 0 (filesS l)).1).left), .int .i64 (((layS D 0 (filesS l)).1).n), .map (some (D_held_b)), .slice (D_pend_a1275) (((layS D 0 (filesS l)).1).pend).length (D_pend_c1276)] 78 :: mpG Mwr (D_held_b) (((layS D 0 (filesS l)).1).held) (D_held_k1274) :: grow 80 RWr h247 (((layS D 0 (filesS l)).1).pend) (D_pend_a1275) (D_pend_c1276) :: L) w254 := (St.back2 (i := 6) (St.back2 (i := 6) (St.back2 (i := 6) (St.back2 (i := 6) (St.back2 (i := 6) hS253 rfl) rfl) rfl) rfl) rfl)
          refine WL.nil ?_
          refine then_normal ?_
          refine WCX.seq ?_
          refine WCX.of ?_
          refine WC.draw 7 [(0, .pointer (some ⟨S_b, 0, none⟩)), (1, .slice (l_a) (l).length (l_c)), (4, .pointer (some ⟨w.heap.size, 0, none⟩)), (6, .int .i64 (0)), (7, .pointer (some ⟨a249, 0, none⟩))] [fun _ v => v = .pointer (some ⟨S_b, 0, none⟩), fun _ v => v = .pointer (some ⟨S_b, 0, none⟩), fun _ v => v = .pointer (some ⟨S_b, 0, none⟩), fun _ v => v = .pointer (some ⟨D_b, 0, none⟩), fun _ v => v = .int .i64 (0), fun _ v => v = .agg #[.int .i64 (((max (S.g0) (S.g1)) + 1)), .int .i64 ((((filesS l).length : Nat) : Int))], fun _ v => v = .string (B ((hdText (((max (S.g0) (S.g1)) + 1)) ((((filesS l).length : Nat) : Int)))))] hS278 (by kernel_rfl) (by kernel_rfl) (MonoFs.pure (MonoFs.pure (MonoFs.pure (MonoFs.pure (MonoFs.pure (MonoFs.pure (MonoFs.pure MonoFs.nil))))))) ⟨rfl, rfl, rfl, rfl, rfl, trivial⟩ ⟨?_, ?_, ?_, ?_, ?_, ?_, ?_, trivial⟩ ?_
          · intro r_ w310 h311 hl312 hS309 hb_ hp_
            obtain ⟨b0_, b1_, b2_, b3_, b4_, _⟩ := hb_
            refine WL.val1 (R_move (v := .pointer (some ⟨S_b, 0, none⟩)) b0_) ?_
            refine WL.nil ?_
            exact ⟨rfl, _, _, rfl, (Hp.le_refl _), rfl, hS309⟩
          · intro r_ w314 h315 hl316 hS313 hb_ hp_
            obtain ⟨b0_, b1_, b2_, b3_, b4_, _⟩ := hb_
            obtain ⟨p0_, _⟩ := hp_
            have p0_ : r_ 47 = .pointer (some ⟨S_b, 0, none⟩) := p0_
            refine WL.val1 (R_nilCheck p0_) ?_
            refine WL.nil ?_
            exact ⟨rfl, _, _, rfl, (Hp.le_refl _), rfl, hS313⟩
          · intro r_ w318 h319 hl320 hS317 hb_ hp_
            obtain ⟨b0_, b1_, b2_, b3_, b4_, _⟩ := hb_
            obtain ⟨p0_, _⟩ := hp_
            have p0_ : r_ 48 = .pointer (some ⟨S_b, 0, none⟩) := p0_
            refine WL.val1 (R_fieldAddr (b := S_b) (off := 0) (m := 0) p0_ (fun _ => by kernel_rfl)) ?_
            refine WL.nil ?_
            exact ⟨rfl, _, _, rfl, (Hp.le_refl _), rfl, hS317⟩
          · intro r_ w322 h323 hl324 hS321 hb_ hp_
            obtain ⟨b0_, b1_, b2_, b3_, b4_, _⟩ := hb_
            obtain ⟨p0_, _⟩ := hp_
            have p0_ : r_ 49 = .pointer (some ⟨S_b, 0, none⟩) := p0_
            refine WL.val1 (R_load (v := .pointer (some ⟨D_b, 0, none⟩)) p0_ (hS321.has (i := 2) rfl) (Tryz.isAgg24 _) rfl) ?_
            refine WL.nil ?_
            exact ⟨rfl, _, _, rfl, (Hp.le_refl _), rfl, hS321⟩
          · intro r_ w326 h327 hl328 hS325 hb_ hp_
            obtain ⟨b0_, b1_, b2_, b3_, b4_, _⟩ := hb_
            refine WL.val1 (R_move (v := .int .i64 (0)) b3_) ?_
            refine WL.nil ?_
            exact ⟨rfl, _, _, rfl, (Hp.le_refl _), rfl, hS325⟩
          · intro r_ w330 h331 hl332 hS329 hb_ hp_
            obtain ⟨b0_, b1_, b2_, b3_, b4_, _⟩ := hb_
            refine WL.val1 (R_loadA (cs := [.int .i64 (((max (S.g0) (S.g1)) + 1)), .int .i64 ((((filesS l).length : Nat) : Int))]) b4_ (hS329.has (i := 0) rfl) (Tryz.isAgg57 _) (Tryz.sizeOf57 _) rfl (sub_cells rfl)) ?_
            refine WL.nil ?_
            exact ⟨rfl, _, _, rfl, (Hp.le_refl _), rfl, hS329⟩
          · intro r_ w334 h335 hl336 hS333 hb_ hp_
            obtain ⟨b0_, b1_, b2_, b3_, b4_, _⟩ := hb_
            obtain ⟨p0_, _⟩ := hp_
            have p0_ : r_ 52 = .agg #[.int .i64 (((max (S.g0) (S.g1)) + 1)), .int .i64 ((((filesS l).length : Nat) : Int))] := p0_
            refine S_callP (vs := [.agg #[.int .i64 (((max (S.g0) (S.g1)) + 1)), .int .i64 ((((filesS l).length : Nat) : Int))]]) hS333 Tryz.call31 (hmap1 p0_) (store_text ({ gen := ((max (S.g0) (S.g1)) + 1), size := (((filesS l).length : Nat) : Int) : Hd }) (by first | assumption | omega | exact rightS_sz hr_ | (have := hlp_ 0; have := hlp_ 1; omega) | (dsimp only; omega) | (have := hlp_ 0; have := hlp_ 1; have q_ := wrD_pend (layS D 0 (filesS l)).1 0 (hdText (max S.g0 S.g1 + 1) ((filesS l).length : Nat)); have q2_ := wrD_pend (layS D 1 (filesS l)).1 1 (hdText (max S.g0 S.g1 + 1) ((filesS l).length : Nat)); omega))) trivial ?_
            intro w338 hS337
            refine WL.nil ?_
            exact ⟨rfl, _, _, rfl, (Hp.le_refl _), rfl, hS337⟩
          · intro r_ w340 h341 hl342 hS339 hb_ hf_
            obtain ⟨b0_, b1_, b2_, b3_, b4_, _⟩ := hb_
            have q3_ := AF.get hf_ 3 (d := 50) rfl rfl
            have q4_ := AF.get hf_ 4 (d := 51) rfl rfl
            have q6_ := AF.get hf_ 6 (d := 53) rfl rfl
            refine WL.frame [(0, .pointer (some ⟨S_b, 0, none⟩)), (1, .slice (l_a) (l).length (l_c)), (4, .pointer (some ⟨w.heap.size, 0, none⟩)), (6, .int .i64 (0)), (7, .pointer (some ⟨a249, 0, none⟩)), (50, .pointer (some ⟨D_b, 0, none⟩)), (51, .int .i64 (0)), (53, .string (B ((hdText (((max (S.g0) (S.g1)) + 1)) ((((filesS l).length : Nat) : Int))))))] ⟨b0_, b1_, b2_, b3_, b4_, q3_, q4_, q6_, trivial⟩ (fun r_ => ?_)
            have hS345 := hS339.growMono (i := 3) rfl hl342
            have hS346 := hS345.growMono (i := 6) rfl hl342
            have hS347 : St Γ h341 (row (D_b) [.bool (((layS D 0 (filesS l)).1).is), .int .i64 (((layS D 0 (filesS l)).1).left), .int .i64 (((layS D 0 (filesS l)).1).n), .map (some (D_held_b)), .slice (D_pend_a1275) (((layS D 0 (filesS l)).1).pend).length (D_pend_c1276)] 78 :: mpG Mwr (D_held_b) (((layS D 0 (filesS l)).1).held) (D_held_k1274) :: grow 80 RWr h341 (((layS D 0 (filesS l)).1).pend) (D_pend_a1275) (D_pend_c1276) :: row (a249) [.int .i64 (((max (S.g0) (S.g1)) + 1)), .int .i64 ((((filesS l).length : Nat) : Int))] 57 :: row (w.heap.size) [.int .i64 (0)] 31 :: row (S_b) [.pointer (some ⟨D_b, 0, none⟩), .int .i64 (S.g0), .int .i64 (S.z0), .int .i64 (S.g1), .int .i64 (S.z1), .slice (S_files_a) (S.files).length (S_files_c)] 60 :: grow 29 RFile h341 (S.files) (S_files_a) (S_files_c) :: emp :: emp :: emp :: L) w340 := (((hS346.front (i := 6) rfl).front (i := 6) rfl).front (i := 6) rfl)
            refine S_callH (vs := [.pointer (some ⟨D_b, 0, none⟩), .int .i64 (0), .string (B ((hdText (((max (S.g0) (S.g1)) + 1)) ((((filesS l).length : Nat) : Int)))))]) (A := fun hh_ => [row (D_b) [.bool (((layS D 0 (filesS l)).1).is), .int .i64 (((layS D 0 (filesS l)).1).left), .int .i64 (((layS D 0 (filesS l)).1).n), .map (some (D_held_b)), .slice (D_pend_a1275) (((layS D 0 (filesS l)).1).pend).length (D_pend_c1276)] 78, mpG Mwr (D_held_b) (((layS D 0 (filesS l)).1).held) (D_held_k1274), grow 80 RWr hh_ (((layS D 0 (filesS l)).1).pend) (D_pend_a1275) (D_pend_c1276)]) (L := row (a249) [.int .i64 (((max (S.g0) (S.g1)) + 1)), .int .i64 ((((filesS l).length : Nat) : Int))] 57 :: row (w.heap.size) [.int .i64 (0)] 31 :: row (S_b) [.pointer (some ⟨D_b, 0, none⟩), .int .i64 (S.g0), .int .i64 (S.z0), .int .i64 (S.g1), .int .i64 (S.z1), .slice (S_files_a) (S.files).length (S_files_c)] 60 :: grow 29 RFile h341 (S.files) (S_files_a) (S_files_c) :: emp :: emp :: emp :: L) hS347 Tryz.call30 rfl (disk_Write ((layS D 0 (filesS l)).1) (D_b) (D_held_b) (D_held_k1274) (D_pend_a1275) (D_pend_c1276) (0) ((hdText (((max (S.g0) (S.g1)) + 1)) ((((filesS l).length : Nat) : Int)))) (by first | assumption | omega | exact rightS_sz hr_ | (have := hlp_ 0; have := hlp_ 1; omega) | (dsimp only; omega) | (have := hlp_ 0; have := hlp_ 1; have q_ := wrD_pend (layS D 0 (filesS l)).1 0 (hdText (max S.g0 S.g1 + 1) ((filesS l).length : Nat)); have q2_ := wrD_pend (layS D 1 (filesS l)).1 1 (hdText (max S.g0 S.g1 + 1) ((filesS l).length : Nat)); omega))) trivial ?_
            intro A348 v349 w344 hp350 hS343
            obtain ⟨D_held_k1351, D_pend_a1352, D_pend_c1353, rfl, rfl⟩ := hp350
            have hS343 : St Γ h341 (row (D_b) [.bool (((wrD ((layS D 0 (filesS l)).1) 0 ((hdText (((max (S.g0) (S.g1)) + 1)) ((((filesS l).length : Nat) : Int))))).1).is), .int .i64 (((wrD ((layS D 0 (filesS l)).1) 0 ((hdText (((max (S.g0) (S.g1)) + 1)) ((((filesS l).length : Nat) : Int))))).1).left), .int .i64 (((wrD ((layS D 0 (filesS l)).1) 0 ((hdText (((max (S.g0) (S.g1)) + 1)) ((((filesS l).length : Nat) : Int))))).1).n), .map (some (D_held_b)), .slice (D_pend_a1352) (((wrD ((layS D 0 (filesS l)).1) 0 ((hdText (((max (S.g0) (S.g1)) + 1)) ((((filesS l).length : Nat) : Int))))).1).pend).length (D_pend_c1353)] 78 :: mpG Mwr (D_held_b) (((wrD ((layS D 0 (filesS l)).1) 0 ((hdText (((max (S.g0) (S.g1)) + 1)) ((((filesS l).length : Nat) : Int))))).1).held) (D_held_k1351) :: grow 80 RWr h341 (((wrD ((layS D 0 (filesS l)).1) 0 ((hdText (((max (S.g0) (S.g1)) + 1)) ((((filesS l).length : Nat) : Int))))).1).pend) (D_pend_a1352) (D_pend_c1353) :: row (a249) [.int .i64 (((max (S.g0) (S.g1)) + 1)), .int .i64 ((((filesS l).length : Nat) : Int))] 57 :: row (w.heap.size) [.int .i64 (0)] 31 :: row (S_b) [.pointer (some ⟨D_b, 0, none⟩), .int .i64 (S.g0), .int .i64 (S.z0), .int .i64 (S.g1), .int .i64 (S.z1), .slice (S_files_a) (S.files).length (S_files_c)] 60 :: grow 29 RFile h341 (S.files) (S_files_a) (S_files_c) :: emp :: emp :: emp :: L) w344 := hS343
            have hS354 : St Γ h341 (row (a249) [.int .i64 (((max (S.g0) (S.g1)) + 1)), .int .i64 ((((filesS l).length : Nat) : Int))] 57 :: row (w.heap.size) [.int .i64 (0)] 31 :: row (S_b) [.pointer (some ⟨D_b, 0, none⟩), .int .i64 (S.g0), .int .i64 (S.z0), .int .i64 (S.g1), .int .i64 (S.z1), .slice (S_files_a) (S.files).length (S_files_c)] 60 :: grow 29 RFile h341 (S.files) (S_files_a) (S_files_c) :: row (D_b) [.bool (((wrD ((layS D 0 (filesS l)).1) 0 ((hdText (((max (S.g0) (S.g1)) + 1)) ((((filesS l).length : Nat) : Int))))).1).is), .int .i64 (((wrD ((layS D 0 (filesS l)).1) 0 ((hdText (((max (S.g0) (S.g1)) + 1)) ((((filesS l).length : Nat) : Int))))).1).left), .int .i64 (((wrD ((layS D 0 (filesS l)).1) 0 ((hdText (((max (S.g0) (S.g1)) + 1)) ((((filesS l).length : Nat) : Int))))).1).n), .map (some (D_held_b)), .slice (D_pend_a1352) (((wrD ((layS D 0 (filesS l)).1) 0 ((hdText (((max (S.g0) (S.g1)) + 1)) ((((filesS l).length : Nat) : Int))))).1).pend).length (D_pend_c1353)] 78 :: mpG Mwr (D_held_b) (((wrD ((layS D 0 (filesS l)).1) 0 ((hdText (((max (S.g0) (S.g1)) + 1)) ((((filesS l).length : Nat) : Int))))).1).held) (D_held_k1351) :: grow 80 RWr h341 (((wrD ((layS D 0 (filesS l)).1) 0 ((hdText (((max (S.g0) (S.g1)) + 1)) ((((filesS l).length : Nat) : Int))))).1).pend) (D_pend_a1352) (D_pend_c1353) :: L) w344 := (St.back2 (i := 6) (St.back2 (i := 6) (St.back2 (i := 6) hS343 rfl) rfl) rfl)
            refine S_callX (vs := [.int .i64 ((wrD ((layS D 0 (filesS l)).1) 0 ((hdText (((max (S.g0) (S.g1)) + 1)) ((((filesS l).length : Nat) : Int))))).2)]) (A := fun hh_ => []) (L := row (a249) [.int .i64 (((max (S.g0) (S.g1)) + 1)), .int .i64 ((((filesS l).length : Nat) : Int))] 57 :: row (w.heap.size) [.int .i64 (0)] 31 :: row (S_b) [.pointer (some ⟨D_b, 0, none⟩), .int .i64 (S.g0), .int .i64 (S.z0), .int .i64 (S.g1), .int .i64 (S.z1), .slice (S_files_a) (S.files).length (S_files_c)] 60 :: grow 29 RFile h341 (S.files) (S_files_a) (S_files_c) :: row (D_b) [.bool (((wrD ((layS D 0 (filesS l)).1) 0 ((hdText (((max (S.g0) (S.g1)) + 1)) ((((filesS l).length : Nat) : Int))))).1).is), .int .i64 (((wrD ((layS D 0 (filesS l)).1) 0 ((hdText (((max (S.g0) (S.g1)) + 1)) ((((filesS l).length : Nat) : Int))))).1).left), .int .i64 (((wrD ((layS D 0 (filesS l)).1) 0 ((hdText (((max (S.g0) (S.g1)) + 1)) ((((filesS l).length : Nat) : Int))))).1).n), .map (some (D_held_b)), .slice (D_pend_a1352) (((wrD ((layS D 0 (filesS l)).1) 0 ((hdText (((max (S.g0) (S.g1)) + 1)) ((((filesS l).length : Nat) : Int))))).1).pend).length (D_pend_c1353)] 78 :: mpG Mwr (D_held_b) (((wrD ((layS D 0 (filesS l)).1) 0 ((hdText (((max (S.g0) (S.g1)) + 1)) ((((filesS l).length : Nat) : Int))))).1).held) (D_held_k1351) :: grow 80 RWr h341 (((wrD ((layS D 0 (filesS l)).1) 0 ((hdText (((max (S.g0) (S.g1)) + 1)) ((((filesS l).length : Nat) : Int))))).1).pend) (D_pend_a1352) (D_pend_c1353) :: L) hS354 Tryz.call29 rfl (store_must ((wrD ((layS D 0 (filesS l)).1) 0 ((hdText (((max (S.g0) (S.g1)) + 1)) ((((filesS l).length : Nat) : Int))))).2)) trivial ?_ ?_
            · intro A360 c361 w362 hp363 hS364
              obtain ⟨rfl, rfl, hf365⟩ := hp363
              have hS364 : St Γ h341 (row (a249) [.int .i64 (((max (S.g0) (S.g1)) + 1)), .int .i64 ((((filesS l).length : Nat) : Int))] 57 :: row (w.heap.size) [.int .i64 (0)] 31 :: row (S_b) [.pointer (some ⟨D_b, 0, none⟩), .int .i64 (S.g0), .int .i64 (S.z0), .int .i64 (S.g1), .int .i64 (S.z1), .slice (S_files_a) (S.files).length (S_files_c)] 60 :: grow 29 RFile h341 (S.files) (S_files_a) (S_files_c) :: row (D_b) [.bool (((wrD ((layS D 0 (filesS l)).1) 0 ((hdText (((max (S.g0) (S.g1)) + 1)) ((((filesS l).length : Nat) : Int))))).1).is), .int .i64 (((wrD ((layS D 0 (filesS l)).1) 0 ((hdText (((max (S.g0) (S.g1)) + 1)) ((((filesS l).length : Nat) : Int))))).1).left), .int .i64 (((wrD ((layS D 0 (filesS l)).1) 0 ((hdText (((max (S.g0) (S.g1)) + 1)) ((((filesS l).length : Nat) : Int))))).1).n), .map (some (D_held_b)), .slice (D_pend_a1352) (((wrD ((layS D 0 (filesS l)).1) 0 ((hdText (((max (S.g0) (S.g1)) + 1)) ((((filesS l).length : Nat) : Int))))).1).pend).length (D_pend_c1353)] 78 :: mpG Mwr (D_held_b) (((wrD ((layS D 0 (filesS l)).1) 0 ((hdText (((max (S.g0) (S.g1)) + 1)) ((((filesS l).length : Nat) : Int))))).1).held) (D_held_k1351) :: grow 80 RWr h341 (((wrD ((layS D 0 (filesS l)).1) 0 ((hdText (((max (S.g0) (S.g1)) + 1)) ((((filesS l).length : Nat) : Int))))).1).pend) (D_pend_a1352) (D_pend_c1353) :: L) w362 := hS364
              refine then_panic ?_
              refine topD_one (K := fun w_ => St Γ h341 (row (a249) [.int .i64 (((max (S.g0) (S.g1)) + 1)), .int .i64 ((((filesS l).length : Nat) : Int))] 57 :: row (w.heap.size) [.int .i64 (((wrD ((layS D 0 (filesS l)).1) 0 ((hdText (((max (S.g0) (S.g1)) + 1)) ((((filesS l).length : Nat) : Int))))).2))] 31 :: row (S_b) [.pointer (some ⟨D_b, 0, none⟩), .int .i64 (S.g0), .int .i64 (S.z0), .int .i64 (S.g1), .int .i64 (S.z1), .slice (S_files_a) (S.files).length (S_files_c)] 60 :: grow 29 RFile h341 (S.files) (S_files_a) (S_files_c) :: row (D_b) [.bool (((wrD ((layS D 0 (filesS l)).1) 0 ((hdText (((max (S.g0) (S.g1)) + 1)) ((((filesS l).length : Nat) : Int))))).1).is), .int .i64 (((wrD ((layS D 0 (filesS l)).1) 0 ((hdText (((max (S.g0) (S.g1)) + 1)) ((((filesS l).length : Nat) : Int))))).1).left), .int .i64 (((wrD ((layS D 0 (filesS l)).1) 0 ((hdText (((max (S.g0) (S.g1)) + 1)) ((((filesS l).length : Nat) : Int))))).1).n), .map (some (D_held_b)), .slice (D_pend_a1352) (((wrD ((layS D 0 (filesS l)).1) 0 ((hdText (((max (S.g0) (S.g1)) + 1)) ((((filesS l).length : Nat) : Int))))).1).pend).length (D_pend_c1353)] 78 :: mpG Mwr (D_held_b) (((wrD ((layS D 0 (filesS l)).1) 0 ((hdText (((max (S.g0) (S.g1)) + 1)) ((((filesS l).length : Nat) : Int))))).1).held) (D_held_k1351) :: grow 80 RWr h341 (((wrD ((layS D 0 (filesS l)).1) 0 ((hdText (((max (S.g0) (S.g1)) + 1)) ((((filesS l).length : Nat) : Int))))).1).pend) (D_pend_a1352) (D_pend_c1353) :: L) w_) (.inr ⟨_, rfl, rfl⟩) (fun w_ => invoke_func 26 _ Tryz.call26 w_) (CallsD.mono (rec_pan hS364 (i := 1) rfl) (fun _ _ _ q_ => ⟨q_.1, by rw [q_.2.1]; rfl, q_.2.2⟩)) ?_
              intro w366 hS367
              refine ⟨.int .i64 (((wrD ((layS D 0 (filesS l)).1) 0 ((hdText (((max (S.g0) (S.g1)) + 1)) ((((filesS l).length : Nat) : Int))))).2)), givesL1 (vs := [.int .i64 (((wrD ((layS D 0 (filesS l)).1) 0 ((hdText (((max (S.g0) (S.g1)) + 1)) ((((filesS l).length : Nat) : Int))))).2))]) rfl ⟨⟨w.heap.size, 0, rfl, loadVar1 (hS367.has (i := 1) rfl) (Tryz.isAgg31 _) rfl⟩, trivial⟩ rfl, ?_⟩
              have e_ := comS_hd hr_ c1 hat_ (by assumption) rfl (by assumption)
              have hS368 : St Γ h341 (row (S_b) [.pointer (some ⟨D_b, 0, none⟩), .int .i64 (S.g0), .int .i64 (S.z0), .int .i64 (S.g1), .int .i64 (S.z1), .slice (S_files_a) (S.files).length (S_files_c)] 60 :: grow 29 RFile h341 (S.files) (S_files_a) (S_files_c) :: row (D_b) [.bool (((wrD ((layS D 0 (filesS l)).1) 0 ((hdText (((max (S.g0) (S.g1)) + 1)) ((((filesS l).length : Nat) : Int))))).1).is), .int .i64 (((wrD ((layS D 0 (filesS l)).1) 0 ((hdText (((max (S.g0) (S.g1)) + 1)) ((((filesS l).length : Nat) : Int))))).1).left), .int .i64 (((wrD ((layS D 0 (filesS l)).1) 0 ((hdText (((max (S.g0) (S.g1)) + 1)) ((((filesS l).length : Nat) : Int))))).1).n), .map (some (D_held_b)), .slice (D_pend_a1352) (((wrD ((layS D 0 (filesS l)).1) 0 ((hdText (((max (S.g0) (S.g1)) + 1)) ((((filesS l).length : Nat) : Int))))).1).pend).length (D_pend_c1353)] 78 :: mpG Mwr (D_held_b) (((wrD ((layS D 0 (filesS l)).1) 0 ((hdText (((max (S.g0) (S.g1)) + 1)) ((((filesS l).length : Nat) : Int))))).1).held) (D_held_k1351) :: grow 80 RWr h341 (((wrD ((layS D 0 (filesS l)).1) 0 ((hdText (((max (S.g0) (S.g1)) + 1)) ((((filesS l).length : Nat) : Int))))).1).pend) (D_pend_a1352) (D_pend_c1353) :: L) w366 := (((((((hS367.move (i := 6) rfl).move (i := 6) rfl).move (i := 6) rfl).move (i := 6) rfl).move (i := 6) rfl).remove 6).remove 5)
              exact ⟨[row (S_b) [.pointer (some ⟨D_b, 0, none⟩), .int .i64 (S.g0), .int .i64 (S.z0), .int .i64 (S.g1), .int .i64 (S.z1), .slice (S_files_a) (S.files).length (S_files_c)] 60, grow 29 RFile h (S.files) (S_files_a) (S_files_c), row (D_b) [.bool (((wrD ((layS D 0 (filesS l)).1) 0 ((hdText (((max (S.g0) (S.g1)) + 1)) ((((filesS l).length : Nat) : Int))))).1).is), .int .i64 (((wrD ((layS D 0 (filesS l)).1) 0 ((hdText (((max (S.g0) (S.g1)) + 1)) ((((filesS l).length : Nat) : Int))))).1).left), .int .i64 (((wrD ((layS D 0 (filesS l)).1) 0 ((hdText (((max (S.g0) (S.g1)) + 1)) ((((filesS l).length : Nat) : Int))))).1).n), .map (some (D_held_b)), .slice (D_pend_a1352) (((wrD ((layS D 0 (filesS l)).1) 0 ((hdText (((max (S.g0) (S.g1)) + 1)) ((((filesS l).length : Nat) : Int))))).1).pend).length (D_pend_c1353)] 78, mpG Mwr (D_held_b) (((wrD ((layS D 0 (filesS l)).1) 0 ((hdText (((max (S.g0) (S.g1)) + 1)) ((((filesS l).length : Nat) : Int))))).1).held) (D_held_k1351), grow 80 RWr h (((wrD ((layS D 0 (filesS l)).1) 0 ((hdText (((max (S.g0) (S.g1)) + 1)) ((((filesS l).length : Nat) : Int))))).1).pend) (D_pend_a1352) (D_pend_c1353)], ⟨S_files_a, S_files_c, D_held_k1351, D_pend_a1352, D_pend_c1353, (by first | rfl | (rw [e_]; done) | (rw [e_]; rfl)), (by first | rfl | (rw [e_]; done) | (rw [e_]; rfl))⟩, (((hS368.growFree (i := 1) h RFile_free rfl).growFree (i := 4) h RWr_free rfl).weaken_h (hl248.trans hl342))⟩
            intro A357 v358 w356 hp359 hS355
            obtain ⟨rfl, rfl, hf369⟩ := hp359
            have hS355 : St Γ h341 (row (a249) [.int .i64 (((max (S.g0) (S.g1)) + 1)), .int .i64 ((((filesS l).length : Nat) : Int))] 57 :: row (w.heap.size) [.int .i64 (0)] 31 :: row (S_b) [.pointer (some ⟨D_b, 0, none⟩), .int .i64 (S.g0), .int .i64 (S.z0), .int .i64 (S.g1), .int .i64 (S.z1), .slice (S_files_a) (S.files).length (S_files_c)] 60 :: grow 29 RFile h341 (S.files) (S_files_a) (S_files_c) :: row (D_b) [.bool (((wrD ((layS D 0 (filesS l)).1) 0 ((hdText (((max (S.g0) (S.g1)) + 1)) ((((filesS l).length : Nat) : Int))))).1).is), .int .i64 (((wrD ((layS D 0 (filesS l)).1) 0 ((hdText (((max (S.g0) (S.g1)) + 1)) ((((filesS l).length : Nat) : Int))))).1).left), .int .i64 (((wrD ((layS D 0 (filesS l)).1) 0 ((hdText (((max (S.g0) (S.g1)) + 1)) ((((filesS l).length : Nat) : Int))))).1).n), .map (some (D_held_b)), .slice (D_pend_a1352) (((wrD ((layS D 0 (filesS l)).1) 0 ((hdText (((max (S.g0) (S.g1)) + 1)) ((((filesS l).length : Nat) : Int))))).1).pend).length (D_pend_c1353)] 78 :: mpG Mwr (D_held_b) (((wrD ((layS D 0 (filesS l)).1) 0 ((hdText (((max (S.g0) (S.g1)) + 1)) ((((filesS l).length : Nat) : Int))))).1).held) (D_held_k1351) :: grow 80 RWr h341 (((wrD ((layS D 0 (filesS l)).1) 0 ((hdText (((max (S.g0) (S.g1)) + 1)) ((((filesS l).length : Nat) : Int))))).1).pend) (D_pend_a1352) (D_pend_c1353) :: L) w356 := hS355
            refine WL.nil ?_
            refine then_normal ?_
            refine WCX.seq ?_
            refine WCX.of ?_
            refine WC.region ?_
            refine WL.val1 (R_move (v := .pointer (some ⟨S_b, 0, none⟩)) rfl) ?_
            refine WL.val1 (R_nilCheck rfl) ?_
            refine WL.val1 (R_fieldAddr (b := S_b) (off := 0) (m := 0) rfl (fun _ => by kernel_rfl)) ?_
            refine WL.val1 (R_load (v := .pointer (some ⟨D_b, 0, none⟩)) rfl (hS355.has (i := 2) rfl) (Tryz.isAgg24 _) rfl) ?_
            have hS372 : St Γ h341 (row (D_b) [.bool (((wrD ((layS D 0 (filesS l)).1) 0 ((hdText (((max (S.g0) (S.g1)) + 1)) ((((filesS l).length : Nat) : Int))))).1).is), .int .i64 (((wrD ((layS D 0 (filesS l)).1) 0 ((hdText (((max (S.g0) (S.g1)) + 1)) ((((filesS l).length : Nat) : Int))))).1).left), .int .i64 (((wrD ((layS D 0 (filesS l)).1) 0 ((hdText (((max (S.g0) (S.g1)) + 1)) ((((filesS l).length : Nat) : Int))))).1).n), .map (some (D_held_b)), .slice (D_pend_a1352) (((wrD ((layS D 0 (filesS l)).1) 0 ((hdText (((max (S.g0) (S.g1)) + 1)) ((((filesS l).length : Nat) : Int))))).1).pend).length (D_pend_c1353)] 78 :: mpG Mwr (D_held_b) (((wrD ((layS D 0 (filesS l)).1) 0 ((hdText (((max (S.g0) (S.g1)) + 1)) ((((filesS l).length : Nat) : Int))))).1).held) (D_held_k1351) :: grow 80 RWr h341 (((wrD ((layS D 0 (filesS l)).1) 0 ((hdText (((max (S.g0) (S.g1)) + 1)) ((((filesS l).length : Nat) : Int))))).1).pend) (D_pend_a1352) (D_pend_c1353) :: row (a249) [.int .i64 (((max (S.g0) (S.g1)) + 1)), .int .i64 ((((filesS l).length : Nat) : Int))] 57 :: row (w.heap.size) [.int .i64 (0)] 31 :: row (S_b) [.pointer (some ⟨D_b, 0, none⟩), .int .i64 (S.g0), .int .i64 (S.z0), .int .i64 (S.g1), .int .i64 (S.z1), .slice (S_files_a) (S.files).length (S_files_c)] 60 :: grow 29 RFile h341 (S.files) (S_files_a) (S_files_c) :: emp :: emp :: emp :: L) w356 := (((hS355.front (i := 6) rfl).front (i := 6) rfl).front (i := 6) rfl)
            refine S_callH (vs := [.pointer (some ⟨D_b, 0, none⟩)]) (A := fun hh_ => [row (D_b) [.bool (((wrD ((layS D 0 (filesS l)).1) 0 ((hdText (((max (S.g0) (S.g1)) + 1)) ((((filesS l).length : Nat) : Int))))).1).is), .int .i64 (((wrD ((layS D 0 (filesS l)).1) 0 ((hdText (((max (S.g0) (S.g1)) + 1)) ((((filesS l).length : Nat) : Int))))).1).left), .int .i64 (((wrD ((layS D 0 (filesS l)).1) 0 ((hdText (((max (S.g0) (S.g1)) + 1)) ((((filesS l).length : Nat) : Int))))).1).n), .map (some (D_held_b)), .slice (D_pend_a1352) (((wrD ((layS D 0 (filesS l)).1) 0 ((hdText (((max (S.g0) (S.g1)) + 1)) ((((filesS l).length : Nat) : Int))))).1).pend).length (D_pend_c1353)] 78, mpG Mwr (D_held_b) (((wrD ((layS D 0 (filesS l)).1) 0 ((hdText (((max (S.g0) (S.g1)) + 1)) ((((filesS l).length : Nat) : Int))))).1).held) (D_held_k1351), grow 80 RWr hh_ (((wrD ((layS D 0 (filesS l)).1) 0 ((hdText (((max (S.g0) (S.g1)) + 1)) ((((filesS l).length : Nat) : Int))))).1).pend) (D_pend_a1352) (D_pend_c1353)]) (L := row (a249) [.int .i64 (((max (S.g0) (S.g1)) + 1)), .int .i64 ((((filesS l).length : Nat) : Int))] 57 :: row (w.heap.size) [.int .i64 (0)] 31 :: row (S_b) [.pointer (some ⟨D_b, 0, none⟩), .int .i64 (S.g0), .int .i64 (S.z0), .int .i64 (S.g1), .int .i64 (S.z1), .slice (S_files_a) (S.files).length (S_files_c)] 60 :: grow 29 RFile h341 (S.files) (S_files_a) (S_files_c) :: emp :: emp :: emp :: L) hS372 Tryz.call32 rfl (disk_Sync ((wrD ((layS D 0 (filesS l)).1) 0 ((hdText (((max (S.g0) (S.g1)) + 1)) ((((filesS l).length : Nat) : Int))))).1) (D_b) (D_held_b) (D_held_k1351) (D_pend_a1352) (D_pend_c1353) (by first | assumption | omega | exact rightS_sz hr_ | (have := hlp_ 0; have := hlp_ 1; omega) | (dsimp only; omega) | (have := hlp_ 0; have := hlp_ 1; have q_ := wrD_pend (layS D 0 (filesS l)).1 0 (hdText (max S.g0 S.g1 + 1) ((filesS l).length : Nat)); have q2_ := wrD_pend (layS D 1 (filesS l)).1 1 (hdText (max S.g0 S.g1 + 1) ((filesS l).length : Nat)); omega))) trivial ?_
            intro A373 v374 w371 hp375 hS370
            obtain ⟨D_held_k1376, D_pend_a1377, D_pend_c1378, rfl, rfl⟩ := hp375
            have hS370 : St Γ h341 (row (D_b) [.bool (((syncD ((wrD ((layS D 0 (filesS l)).1) 0 ((hdText (((max (S.g0) (S.g1)) + 1)) ((((filesS l).length : Nat) : Int))))).1)).1).is), .int .i64 (((syncD ((wrD ((layS D 0 (filesS l)).1) 0 ((hdText (((max (S.g0) (S.g1)) + 1)) ((((filesS l).length : Nat) : Int))))).1)).1).left), .int .i64 (((syncD ((wrD ((layS D 0 (filesS l)).1) 0 ((hdText (((max (S.g0) (S.g1)) + 1)) ((((filesS l).length : Nat) : Int))))).1)).1).n), .map (some (D_held_b)), .slice (D_pend_a1377) (((syncD ((wrD ((layS D 0 (filesS l)).1) 0 ((hdText (((max (S.g0) (S.g1)) + 1)) ((((filesS l).length : Nat) : Int))))).1)).1).pend).length (D_pend_c1378)] 78 :: mpG Mwr (D_held_b) (((syncD ((wrD ((layS D 0 (filesS l)).1) 0 ((hdText (((max (S.g0) (S.g1)) + 1)) ((((filesS l).length : Nat) : Int))))).1)).1).held) (D_held_k1376) :: grow 80 RWr h341 (((syncD ((wrD ((layS D 0 (filesS l)).1) 0 ((hdText (((max (S.g0) (S.g1)) + 1)) ((((filesS l).length : Nat) : Int))))).1)).1).pend) (D_pend_a1377) (D_pend_c1378) :: row (a249) [.int .i64 (((max (S.g0) (S.g1)) + 1)), .int .i64 ((((filesS l).length : Nat) : Int))] 57 :: row (w.heap.size) [.int .i64 (0)] 31 :: row (S_b) [.pointer (some ⟨D_b, 0, none⟩), .int .i64 (S.g0), .int .i64 (S.z0), .int .i64 (S.g1), .int .i64 (S.z1), .slice (S_files_a) (S.files).length (S_files_c)] 60 :: grow 29 RFile h341 (S.files) (S_files_a) (S_files_c) :: emp :: emp :: emp :: L) w371 := hS370
            have hS379 : St Γ h341 (row (a249) [.int .i64 (((max (S.g0) (S.g1)) + 1)), .int .i64 ((((filesS l).length : Nat) : Int))] 57 :: row (w.heap.size) [.int .i64 (0)] 31 :: row (S_b) [.pointer (some ⟨D_b, 0, none⟩), .int .i64 (S.g0), .int .i64 (S.z0), .int .i64 (S.g1), .int .i64 (S.z1), .slice (S_files_a) (S.files).length (S_files_c)] 60 :: grow 29 RFile h341 (S.files) (S_files_a) (S_files_c) :: row (D_b) [.bool (((syncD ((wrD ((layS D 0 (filesS l)).1) 0 ((hdText (((max (S.g0) (S.g1)) + 1)) ((((filesS l).length : Nat) : Int))))).1)).1).is), .int .i64 (((syncD ((wrD ((layS D 0 (filesS l)).1) 0 ((hdText (((max (S.g0) (S.g1)) + 1)) ((((filesS l).length : Nat) : Int))))).1)).1).left), .int .i64 (((syncD ((wrD ((layS D 0 (filesS l)).1) 0 ((hdText (((max (S.g0) (S.g1)) + 1)) ((((filesS l).length : Nat) : Int))))).1)).1).n), .map (some (D_held_b)), .slice (D_pend_a1377) (((syncD ((wrD ((layS D 0 (filesS l)).1) 0 ((hdText (((max (S.g0) (S.g1)) + 1)) ((((filesS l).length : Nat) : Int))))).1)).1).pend).length (D_pend_c1378)] 78 :: mpG Mwr (D_held_b) (((syncD ((wrD ((layS D 0 (filesS l)).1) 0 ((hdText (((max (S.g0) (S.g1)) + 1)) ((((filesS l).length : Nat) : Int))))).1)).1).held) (D_held_k1376) :: grow 80 RWr h341 (((syncD ((wrD ((layS D 0 (filesS l)).1) 0 ((hdText (((max (S.g0) (S.g1)) + 1)) ((((filesS l).length : Nat) : Int))))).1)).1).pend) (D_pend_a1377) (D_pend_c1378) :: L) w371 := (St.back2 (i := 6) (St.back2 (i := 6) (St.back2 (i := 6) hS370 rfl) rfl) rfl)
            refine S_callX (vs := [.int .i64 ((syncD ((wrD ((layS D 0 (filesS l)).1) 0 ((hdText (((max (S.g0) (S.g1)) + 1)) ((((filesS l).length : Nat) : Int))))).1)).2)]) (A := fun hh_ => []) (L := row (a249) [.int .i64 (((max (S.g0) (S.g1)) + 1)), .int .i64 ((((filesS l).length : Nat) : Int))] 57 :: row (w.heap.size) [.int .i64 (0)] 31 :: row (S_b) [.pointer (some ⟨D_b, 0, none⟩), .int .i64 (S.g0), .int .i64 (S.z0), .int .i64 (S.g1), .int .i64 (S.z1), .slice (S_files_a) (S.files).length (S_files_c)] 60 :: grow 29 RFile h341 (S.files) (S_files_a) (S_files_c) :: row (D_b) [.bool (((syncD ((wrD ((layS D 0 (filesS l)).1) 0 ((hdText (((max (S.g0) (S.g1)) + 1)) ((((filesS l).length : Nat) : Int))))).1)).1).is), .int .i64 (((syncD ((wrD ((layS D 0 (filesS l)).1) 0 ((hdText (((max (S.g0) (S.g1)) + 1)) ((((filesS l).length : Nat) : Int))))).1)).1).left), .int .i64 (((syncD ((wrD ((layS D 0 (filesS l)).1) 0 ((hdText (((max (S.g0) (S.g1)) + 1)) ((((filesS l).length : Nat) : Int))))).1)).1).n), .map (some (D_held_b)), .slice (D_pend_a1377) (((syncD ((wrD ((layS D 0 (filesS l)).1) 0 ((hdText (((max (S.g0) (S.g1)) + 1)) ((((filesS l).length : Nat) : Int))))).1)).1).pend).length (D_pend_c1378)] 78 :: mpG Mwr (D_held_b) (((syncD ((wrD ((layS D 0 (filesS l)).1) 0 ((hdText (((max (S.g0) (S.g1)) + 1)) ((((filesS l).length : Nat) : Int))))).1)).1).held) (D_held_k1376) :: grow 80 RWr h341 (((syncD ((wrD ((layS D 0 (filesS l)).1) 0 ((hdText (((max (S.g0) (S.g1)) + 1)) ((((filesS l).length : Nat) : Int))))).1)).1).pend) (D_pend_a1377) (D_pend_c1378) :: L) hS379 Tryz.call29 rfl (store_must ((syncD ((wrD ((layS D 0 (filesS l)).1) 0 ((hdText (((max (S.g0) (S.g1)) + 1)) ((((filesS l).length : Nat) : Int))))).1)).2)) trivial ?_ ?_
            · intro A385 c386 w387 hp388 hS389
              obtain ⟨rfl, rfl, hf390⟩ := hp388
              have hS389 : St Γ h341 (row (a249) [.int .i64 (((max (S.g0) (S.g1)) + 1)), .int .i64 ((((filesS l).length : Nat) : Int))] 57 :: row (w.heap.size) [.int .i64 (0)] 31 :: row (S_b) [.pointer (some ⟨D_b, 0, none⟩), .int .i64 (S.g0), .int .i64 (S.z0), .int .i64 (S.g1), .int .i64 (S.z1), .slice (S_files_a) (S.files).length (S_files_c)] 60 :: grow 29 RFile h341 (S.files) (S_files_a) (S_files_c) :: row (D_b) [.bool (((syncD ((wrD ((layS D 0 (filesS l)).1) 0 ((hdText (((max (S.g0) (S.g1)) + 1)) ((((filesS l).length : Nat) : Int))))).1)).1).is), .int .i64 (((syncD ((wrD ((layS D 0 (filesS l)).1) 0 ((hdText (((max (S.g0) (S.g1)) + 1)) ((((filesS l).length : Nat) : Int))))).1)).1).left), .int .i64 (((syncD ((wrD ((layS D 0 (filesS l)).1) 0 ((hdText (((max (S.g0) (S.g1)) + 1)) ((((filesS l).length : Nat) : Int))))).1)).1).n), .map (some (D_held_b)), .slice (D_pend_a1377) (((syncD ((wrD ((layS D 0 (filesS l)).1) 0 ((hdText (((max (S.g0) (S.g1)) + 1)) ((((filesS l).length : Nat) : Int))))).1)).1).pend).length (D_pend_c1378)] 78 :: mpG Mwr (D_held_b) (((syncD ((wrD ((layS D 0 (filesS l)).1) 0 ((hdText (((max (S.g0) (S.g1)) + 1)) ((((filesS l).length : Nat) : Int))))).1)).1).held) (D_held_k1376) :: grow 80 RWr h341 (((syncD ((wrD ((layS D 0 (filesS l)).1) 0 ((hdText (((max (S.g0) (S.g1)) + 1)) ((((filesS l).length : Nat) : Int))))).1)).1).pend) (D_pend_a1377) (D_pend_c1378) :: L) w387 := hS389
              refine then_panic ?_
              refine topD_one (K := fun w_ => St Γ h341 (row (a249) [.int .i64 (((max (S.g0) (S.g1)) + 1)), .int .i64 ((((filesS l).length : Nat) : Int))] 57 :: row (w.heap.size) [.int .i64 (((syncD ((wrD ((layS D 0 (filesS l)).1) 0 ((hdText (((max (S.g0) (S.g1)) + 1)) ((((filesS l).length : Nat) : Int))))).1)).2))] 31 :: row (S_b) [.pointer (some ⟨D_b, 0, none⟩), .int .i64 (S.g0), .int .i64 (S.z0), .int .i64 (S.g1), .int .i64 (S.z1), .slice (S_files_a) (S.files).length (S_files_c)] 60 :: grow 29 RFile h341 (S.files) (S_files_a) (S_files_c) :: row (D_b) [.bool (((syncD ((wrD ((layS D 0 (filesS l)).1) 0 ((hdText (((max (S.g0) (S.g1)) + 1)) ((((filesS l).length : Nat) : Int))))).1)).1).is), .int .i64 (((syncD ((wrD ((layS D 0 (filesS l)).1) 0 ((hdText (((max (S.g0) (S.g1)) + 1)) ((((filesS l).length : Nat) : Int))))).1)).1).left), .int .i64 (((syncD ((wrD ((layS D 0 (filesS l)).1) 0 ((hdText (((max (S.g0) (S.g1)) + 1)) ((((filesS l).length : Nat) : Int))))).1)).1).n), .map (some (D_held_b)), .slice (D_pend_a1377) (((syncD ((wrD ((layS D 0 (filesS l)).1) 0 ((hdText (((max (S.g0) (S.g1)) + 1)) ((((filesS l).length : Nat) : Int))))).1)).1).pend).length (D_pend_c1378)] 78 :: mpG Mwr (D_held_b) (((syncD ((wrD ((layS D 0 (filesS l)).1) 0 ((hdText (((max (S.g0) (S.g1)) + 1)) ((((filesS l).length : Nat) : Int))))).1)).1).held) (D_held_k1376) :: grow 80 RWr h341 (((syncD ((wrD ((layS D 0 (filesS l)).1) 0 ((hdText (((max (S.g0) (S.g1)) + 1)) ((((filesS l).length : Nat) : Int))))).1)).1).pend) (D_pend_a1377) (D_pend_c1378) :: L) w_) (.inr ⟨_, rfl, rfl⟩) (fun w_ => invoke_func 26 _ Tryz.call26 w_) (CallsD.mono (rec_pan hS389 (i := 1) rfl) (fun _ _ _ q_ => ⟨q_.1, by rw [q_.2.1]; rfl, q_.2.2⟩)) ?_
              intro w391 hS392
              refine ⟨.int .i64 (((syncD ((wrD ((layS D 0 (filesS l)).1) 0 ((hdText (((max (S.g0) (S.g1)) + 1)) ((((filesS l).length : Nat) : Int))))).1)).2)), givesL1 (vs := [.int .i64 (((syncD ((wrD ((layS D 0 (filesS l)).1) 0 ((hdText (((max (S.g0) (S.g1)) + 1)) ((((filesS l).length : Nat) : Int))))).1)).2))]) rfl ⟨⟨w.heap.size, 0, rfl, loadVar1 (hS392.has (i := 1) rfl) (Tryz.isAgg31 _) rfl⟩, trivial⟩ rfl, ?_⟩
              have e_ := comS_sync hr_ c1 hat_ (by assumption) rfl (by assumption) rfl (by assumption)
              have hS393 : St Γ h341 (row (S_b) [.pointer (some ⟨D_b, 0, none⟩), .int .i64 (S.g0), .int .i64 (S.z0), .int .i64 (S.g1), .int .i64 (S.z1), .slice (S_files_a) (S.files).length (S_files_c)] 60 :: grow 29 RFile h341 (S.files) (S_files_a) (S_files_c) :: row (D_b) [.bool (((syncD ((wrD ((layS D 0 (filesS l)).1) 0 ((hdText (((max (S.g0) (S.g1)) + 1)) ((((filesS l).length : Nat) : Int))))).1)).1).is), .int .i64 (((syncD ((wrD ((layS D 0 (filesS l)).1) 0 ((hdText (((max (S.g0) (S.g1)) + 1)) ((((filesS l).length : Nat) : Int))))).1)).1).left), .int .i64 (((syncD ((wrD ((layS D 0 (filesS l)).1) 0 ((hdText (((max (S.g0) (S.g1)) + 1)) ((((filesS l).length : Nat) : Int))))).1)).1).n), .map (some (D_held_b)), .slice (D_pend_a1377) (((syncD ((wrD ((layS D 0 (filesS l)).1) 0 ((hdText (((max (S.g0) (S.g1)) + 1)) ((((filesS l).length : Nat) : Int))))).1)).1).pend).length (D_pend_c1378)] 78 :: mpG Mwr (D_held_b) (((syncD ((wrD ((layS D 0 (filesS l)).1) 0 ((hdText (((max (S.g0) (S.g1)) + 1)) ((((filesS l).length : Nat) : Int))))).1)).1).held) (D_held_k1376) :: grow 80 RWr h341 (((syncD ((wrD ((layS D 0 (filesS l)).1) 0 ((hdText (((max (S.g0) (S.g1)) + 1)) ((((filesS l).length : Nat) : Int))))).1)).1).pend) (D_pend_a1377) (D_pend_c1378) :: L) w391 := (((((((hS392.move (i := 6) rfl).move (i := 6) rfl).move (i := 6) rfl).move (i := 6) rfl).move (i := 6) rfl).remove 6).remove 5)
              exact ⟨[row (S_b) [.pointer (some ⟨D_b, 0, none⟩), .int .i64 (S.g0), .int .i64 (S.z0), .int .i64 (S.g1), .int .i64 (S.z1), .slice (S_files_a) (S.files).length (S_files_c)] 60, grow 29 RFile h (S.files) (S_files_a) (S_files_c), row (D_b) [.bool (((syncD ((wrD ((layS D 0 (filesS l)).1) 0 ((hdText (((max (S.g0) (S.g1)) + 1)) ((((filesS l).length : Nat) : Int))))).1)).1).is), .int .i64 (((syncD ((wrD ((layS D 0 (filesS l)).1) 0 ((hdText (((max (S.g0) (S.g1)) + 1)) ((((filesS l).length : Nat) : Int))))).1)).1).left), .int .i64 (((syncD ((wrD ((layS D 0 (filesS l)).1) 0 ((hdText (((max (S.g0) (S.g1)) + 1)) ((((filesS l).length : Nat) : Int))))).1)).1).n), .map (some (D_held_b)), .slice (D_pend_a1377) (((syncD ((wrD ((layS D 0 (filesS l)).1) 0 ((hdText (((max (S.g0) (S.g1)) + 1)) ((((filesS l).length : Nat) : Int))))).1)).1).pend).length (D_pend_c1378)] 78, mpG Mwr (D_held_b) (((syncD ((wrD ((layS D 0 (filesS l)).1) 0 ((hdText (((max (S.g0) (S.g1)) + 1)) ((((filesS l).length : Nat) : Int))))).1)).1).held) (D_held_k1376), grow 80 RWr h (((syncD ((wrD ((layS D 0 (filesS l)).1) 0 ((hdText (((max (S.g0) (S.g1)) + 1)) ((((filesS l).length : Nat) : Int))))).1)).1).pend) (D_pend_a1377) (D_pend_c1378)], ⟨S_files_a, S_files_c, D_held_k1376, D_pend_a1377, D_pend_c1378, (by first | rfl | (rw [e_]; done) | (rw [e_]; rfl)), (by first | rfl | (rw [e_]; done) | (rw [e_]; rfl))⟩, (((hS393.growFree (i := 1) h RFile_free rfl).growFree (i := 4) h RWr_free rfl).weaken_h (hl248.trans hl342))⟩
            intro A382 v383 w381 hp384 hS380
            obtain ⟨rfl, rfl, hf394⟩ := hp384
            have hS380 : St Γ h341 (row (a249) [.int .i64 (((max (S.g0) (S.g1)) + 1)), .int .i64 ((((filesS l).length : Nat) : Int))] 57 :: row (w.heap.size) [.int .i64 (0)] 31 :: row (S_b) [.pointer (some ⟨D_b, 0, none⟩), .int .i64 (S.g0), .int .i64 (S.z0), .int .i64 (S.g1), .int .i64 (S.z1), .slice (S_files_a) (S.files).length (S_files_c)] 60 :: grow 29 RFile h341 (S.files) (S_files_a) (S_files_c) :: row (D_b) [.bool (((syncD ((wrD ((layS D 0 (filesS l)).1) 0 ((hdText (((max (S.g0) (S.g1)) + 1)) ((((filesS l).length : Nat) : Int))))).1)).1).is), .int .i64 (((syncD ((wrD ((layS D 0 (filesS l)).1) 0 ((hdText (((max (S.g0) (S.g1)) + 1)) ((((filesS l).length : Nat) : Int))))).1)).1).left), .int .i64 (((syncD ((wrD ((layS D 0 (filesS l)).1) 0 ((hdText (((max (S.g0) (S.g1)) + 1)) ((((filesS l).length : Nat) : Int))))).1)).1).n), .map (some (D_held_b)), .slice (D_pend_a1377) (((syncD ((wrD ((layS D 0 (filesS l)).1) 0 ((hdText (((max (S.g0) (S.g1)) + 1)) ((((filesS l).length : Nat) : Int))))).1)).1).pend).length (D_pend_c1378)] 78 :: mpG Mwr (D_held_b) (((syncD ((wrD ((layS D 0 (filesS l)).1) 0 ((hdText (((max (S.g0) (S.g1)) + 1)) ((((filesS l).length : Nat) : Int))))).1)).1).held) (D_held_k1376) :: grow 80 RWr h341 (((syncD ((wrD ((layS D 0 (filesS l)).1) 0 ((hdText (((max (S.g0) (S.g1)) + 1)) ((((filesS l).length : Nat) : Int))))).1)).1).pend) (D_pend_a1377) (D_pend_c1378) :: L) w381 := hS380
            refine WL.nil ?_
            refine then_normal ?_
            refine WCX.seq ?_
            refine WCX.of ?_
            refine WC.draw 5 [(0, .pointer (some ⟨S_b, 0, none⟩)), (1, .slice (l_a) (l).length (l_c)), (4, .pointer (some ⟨w.heap.size, 0, none⟩)), (6, .int .i64 (0)), (7, .pointer (some ⟨a249, 0, none⟩))] [fun _ v => v = .pointer (some ⟨S_b, 0, none⟩), fun _ v => v = .int .i64 (0), fun _ v => v = .agg #[.int .i64 (((max (S.g0) (S.g1)) + 1)), .int .i64 ((((filesS l).length : Nat) : Int))], fun _ v => v = .pointer (some ⟨S_b, 0, none⟩), fun _ v => v = .pointer (some ⟨S_b, 1, none⟩)] hS380 (by kernel_rfl) (by kernel_rfl) (MonoFs.pure (MonoFs.pure (MonoFs.pure (MonoFs.pure (MonoFs.pure MonoFs.nil))))) ⟨rfl, rfl, rfl, rfl, rfl, trivial⟩ ⟨?_, ?_, ?_, ?_, ?_, trivial⟩ ?_
            · intro r_ w416 h417 hl418 hS415 hb_ hp_
              obtain ⟨b0_, b1_, b2_, b3_, b4_, _⟩ := hb_
              refine WL.val1 (R_move (v := .pointer (some ⟨S_b, 0, none⟩)) b0_) ?_
              refine WL.nil ?_
              exact ⟨rfl, _, _, rfl, (Hp.le_refl _), rfl, hS415⟩
            · intro r_ w420 h421 hl422 hS419 hb_ hp_
              obtain ⟨b0_, b1_, b2_, b3_, b4_, _⟩ := hb_
              refine WL.val1 (R_move (v := .int .i64 (0)) b3_) ?_
              refine WL.nil ?_
              exact ⟨rfl, _, _, rfl, (Hp.le_refl _), rfl, hS419⟩
            · intro r_ w424 h425 hl426 hS423 hb_ hp_
              obtain ⟨b0_, b1_, b2_, b3_, b4_, _⟩ := hb_
              refine WL.val1 (R_loadA (cs := [.int .i64 (((max (S.g0) (S.g1)) + 1)), .int .i64 ((((filesS l).length : Nat) : Int))]) b4_ (hS423.has (i := 0) rfl) (Tryz.isAgg57 _) (Tryz.sizeOf57 _) rfl (sub_cells rfl)) ?_
              refine WL.nil ?_
              exact ⟨rfl, _, _, rfl, (Hp.le_refl _), rfl, hS423⟩
            · intro r_ w428 h429 hl430 hS427 hb_ hp_
              obtain ⟨b0_, b1_, b2_, b3_, b4_, _⟩ := hb_
              obtain ⟨p0_, _⟩ := hp_
              have p0_ : r_ 62 = .pointer (some ⟨S_b, 0, none⟩) := p0_
              refine WL.val1 (R_nilCheck p0_) ?_
              refine WL.nil ?_
              exact ⟨rfl, _, _, rfl, (Hp.le_refl _), rfl, hS427⟩
            · intro r_ w432 h433 hl434 hS431 hb_ hp_
              obtain ⟨b0_, b1_, b2_, b3_, b4_, _⟩ := hb_
              obtain ⟨p0_, _⟩ := hp_
              have p0_ : r_ 65 = .pointer (some ⟨S_b, 0, none⟩) := p0_
              refine WL.val1 (R_fieldAddr (b := S_b) (off := 0) (m := 1) p0_ (fun _ => by kernel_rfl)) ?_
              refine WL.nil ?_
              exact ⟨rfl, _, _, rfl, (Hp.le_refl _), rfl, hS431⟩
            · intro r_ w436 h437 hl438 hS435 hb_ hf_
              obtain ⟨b0_, b1_, b2_, b3_, b4_, _⟩ := hb_
              have q1_ := AF.get hf_ 1 (d := 63) rfl rfl
              have q2_ := AF.get hf_ 2 (d := 64) rfl rfl
              have q4_ := AF.get hf_ 4 (d := 66) rfl rfl
              refine WL.frame [(0, .pointer (some ⟨S_b, 0, none⟩)), (1, .slice (l_a) (l).length (l_c)), (4, .pointer (some ⟨w.heap.size, 0, none⟩)), (6, .int .i64 (0)), (7, .pointer (some ⟨a249, 0, none⟩)), (63, .int .i64 (0)), (64, .agg #[.int .i64 (((max (S.g0) (S.g1)) + 1)), .int .i64 ((((filesS l).length : Nat) : Int))]), (66, .pointer (some ⟨S_b, 1, none⟩))] ⟨b0_, b1_, b2_, b3_, b4_, q1_, q2_, q4_, trivial⟩ (fun r_ => ?_)
              refine WL.val1 (R_indexArr (b := S_b) (o := 1) (i := 0) (m := 0) rfl rfl Tryz.underlying58 (Tryz.sizeOf57 _) rfl (by decide)) ?_
              refine S_store (i := 2) (b := S_b) (l := [.pointer (some ⟨D_b, 0, none⟩), .int .i64 (S.g0), .int .i64 (S.z0), .int .i64 (S.g1), .int .i64 (S.z1), .slice (S_files_a) (S.files).length (S_files_c)]) (l' := [.pointer (some ⟨D_b, 0, none⟩), .int .i64 (((max (S.g0) (S.g1)) + 1)), .int .i64 ((((filesS l).length : Nat) : Int)), .int .i64 (S.g1), .int .i64 (S.z1), .slice (S_files_a) (S.files).length (S_files_c)]) (vs := [.int .i64 (((max (S.g0) (S.g1)) + 1)), .int .i64 ((((filesS l).length : Nat) : Int))]) (v := .agg #[.int .i64 (((max (S.g0) (S.g1)) + 1)), .int .i64 ((((filesS l).length : Nat) : Int))]) hS435 rfl rfl rfl Tryz.sizeOf57 rfl rfl rfl (Nat.le_of_ble_eq_true rfl) rfl rfl ?_
              intro w440 hS439
              refine WL.nil ?_
              refine then_normal ?_
              refine WCX.seq ?_
              refine WCX.of ?_
              refine WC.region ?_
              refine WL.val1 (R_move (v := .pointer (some ⟨S_b, 0, none⟩)) rfl) ?_
              refine WL.val1 (R_move (v := .slice (l_a) (l).length (l_c)) rfl) ?_
              have hS443 := hS439.growMono (i := 3) rfl hl438
              have hS444 := hS443.growMono (i := 6) rfl hl438
              refine S_callH (vs := [.slice (l_a) (l).length (l_c)]) (A := fun hh_ => []) (L := row (a249) [.int .i64 (((max (S.g0) (S.g1)) + 1)), .int .i64 ((((filesS l).length : Nat) : Int))] 57 :: row (w.heap.size) [.int .i64 (0)] 31 :: row (S_b) [.pointer (some ⟨D_b, 0, none⟩), .int .i64 (((max (S.g0) (S.g1)) + 1)), .int .i64 ((((filesS l).length : Nat) : Int)), .int .i64 (S.g1), .int .i64 (S.z1), .slice (S_files_a) (S.files).length (S_files_c)] 60 :: grow 29 RFile h437 (S.files) (S_files_a) (S_files_c) :: row (D_b) [.bool (((syncD ((wrD ((layS D 0 (filesS l)).1) 0 ((hdText (((max (S.g0) (S.g1)) + 1)) ((((filesS l).length : Nat) : Int))))).1)).1).is), .int .i64 (((syncD ((wrD ((layS D 0 (filesS l)).1) 0 ((hdText (((max (S.g0) (S.g1)) + 1)) ((((filesS l).length : Nat) : Int))))).1)).1).left), .int .i64 (((syncD ((wrD ((layS D 0 (filesS l)).1) 0 ((hdText (((max (S.g0) (S.g1)) + 1)) ((((filesS l).length : Nat) : Int))))).1)).1).n), .map (some (D_held_b)), .slice (D_pend_a1377) (((syncD ((wrD ((layS D 0 (filesS l)).1) 0 ((hdText (((max (S.g0) (S.g1)) + 1)) ((((filesS l).length : Nat) : Int))))).1)).1).pend).length (D_pend_c1378)] 78 :: mpG Mwr (D_held_b) (((syncD ((wrD ((layS D 0 (filesS l)).1) 0 ((hdText (((max (S.g0) (S.g1)) + 1)) ((((filesS l).length : Nat) : Int))))).1)).1).held) (D_held_k1376) :: grow 80 RWr h437 (((syncD ((wrD ((layS D 0 (filesS l)).1) 0 ((hdText (((max (S.g0) (S.g1)) + 1)) ((((filesS l).length : Nat) : Int))))).1)).1).pend) (D_pend_a1377) (D_pend_c1378) :: L) hS444 Tryz.call33 rfl (lib_Clone (l) (l_a) (l_c) (by first | assumption | omega | exact rightS_sz hr_ | (have := hlp_ 0; have := hlp_ 1; omega) | (dsimp only; omega) | (have := hlp_ 0; have := hlp_ 1; have q_ := wrD_pend (layS D 0 (filesS l)).1 0 (hdText (max S.g0 S.g1 + 1) ((filesS l).length : Nat)); have q2_ := wrD_pend (layS D 1 (filesS l)).1 1 (hdText (max S.g0 S.g1 + 1) ((filesS l).length : Nat)); omega))) (sl_l.mono ((hl248.trans hl342).trans hl438)) ?_
              intro A445 v446 w442 hp447 hS441
              obtain ⟨r_a448, r_c449, rfl, rfl⟩ := hp447
              have hS441 : St Γ h437 (grow 29 RFile h437 (l) (r_a448) (r_c449) :: row (a249) [.int .i64 (((max (S.g0) (S.g1)) + 1)), .int .i64 ((((filesS l).length : Nat) : Int))] 57 :: row (w.heap.size) [.int .i64 (0)] 31 :: row (S_b) [.pointer (some ⟨D_b, 0, none⟩), .int .i64 (((max (S.g0) (S.g1)) + 1)), .int .i64 ((((filesS l).length : Nat) : Int)), .int .i64 (S.g1), .int .i64 (S.z1), .slice (S_files_a) (S.files).length (S_files_c)] 60 :: grow 29 RFile h437 (S.files) (S_files_a) (S_files_c) :: row (D_b) [.bool (((syncD ((wrD ((layS D 0 (filesS l)).1) 0 ((hdText (((max (S.g0) (S.g1)) + 1)) ((((filesS l).length : Nat) : Int))))).1)).1).is), .int .i64 (((syncD ((wrD ((layS D 0 (filesS l)).1) 0 ((hdText (((max (S.g0) (S.g1)) + 1)) ((((filesS l).length : Nat) : Int))))).1)).1).left), .int .i64 (((syncD ((wrD ((layS D 0 (filesS l)).1) 0 ((hdText (((max (S.g0) (S.g1)) + 1)) ((((filesS l).length : Nat) : Int))))).1)).1).n), .map (some (D_held_b)), .slice (D_pend_a1377) (((syncD ((wrD ((layS D 0 (filesS l)).1) 0 ((hdText (((max (S.g0) (S.g1)) + 1)) ((((filesS l).length : Nat) : Int))))).1)).1).pend).length (D_pend_c1378)] 78 :: mpG Mwr (D_held_b) (((syncD ((wrD ((layS D 0 (filesS l)).1) 0 ((hdText (((max (S.g0) (S.g1)) + 1)) ((((filesS l).length : Nat) : Int))))).1)).1).held) (D_held_k1376) :: grow 80 RWr h437 (((syncD ((wrD ((layS D 0 (filesS l)).1) 0 ((hdText (((max (S.g0) (S.g1)) + 1)) ((((filesS l).length : Nat) : Int))))).1)).1).pend) (D_pend_a1377) (D_pend_c1378) :: L) w442 := hS441
              refine WL.val1 (R_nilCheck rfl) ?_
              refine WL.val1 (R_fieldAddr (b := S_b) (off := 0) (m := 5) rfl (fun _ => by kernel_rfl)) ?_
              refine S_store (i := 3) (b := S_b) (l := [.pointer (some ⟨D_b, 0, none⟩), .int .i64 (((max (S.g0) (S.g1)) + 1)), .int .i64 ((((filesS l).length : Nat) : Int)), .int .i64 (S.g1), .int .i64 (S.z1), .slice (S_files_a) (S.files).length (S_files_c)]) (l' := [.pointer (some ⟨D_b, 0, none⟩), .int .i64 (((max (S.g0) (S.g1)) + 1)), .int .i64 ((((filesS l).length : Nat) : Int)), .int .i64 (S.g1), .int .i64 (S.z1), .slice (r_a448) (l).length (r_c449)]) (vs := [.slice (r_a448) (l).length (r_c449)]) (v := .slice (r_a448) (l).length (r_c449)) hS441 rfl rfl rfl Tryz.sizeOf30 rfl rfl rfl (Nat.le_of_ble_eq_true rfl) rfl rfl ?_
              intro w451 hS450
              refine WL.nil ?_
              refine then_normal ?_
              refine WCX.seq ?_
              refine WCX.of ?_
              refine WC.region ?_
              refine S_store (i := 2) (b := w.heap.size) (l := [.int .i64 (0)]) (l' := [.int .i64 (0)]) (vs := [.int .i64 (0)]) (v := .int .i64 (0)) hS450 rfl rfl rfl Tryz.sizeOf31 rfl rfl rfl (Nat.le_of_ble_eq_true rfl) rfl rfl ?_
              intro w453 hS452
              refine WL.nil ?_
              refine then_normal ?_
              refine WCX.of ?_
              refine WC.ret ?_
              refine topD_one (K := fun w_ => St Γ h437 (grow 29 RFile h437 (l) (r_a448) (r_c449) :: row (a249) [.int .i64 (((max (S.g0) (S.g1)) + 1)), .int .i64 ((((filesS l).length : Nat) : Int))] 57 :: row (w.heap.size) [.int .i64 (0)] 31 :: row (S_b) [.pointer (some ⟨D_b, 0, none⟩), .int .i64 (((max (S.g0) (S.g1)) + 1)), .int .i64 ((((filesS l).length : Nat) : Int)), .int .i64 (S.g1), .int .i64 (S.z1), .slice (r_a448) (l).length (r_c449)] 60 :: grow 29 RFile h437 (S.files) (S_files_a) (S_files_c) :: row (D_b) [.bool (((syncD ((wrD ((layS D 0 (filesS l)).1) 0 ((hdText (((max (S.g0) (S.g1)) + 1)) ((((filesS l).length : Nat) : Int))))).1)).1).is), .int .i64 (((syncD ((wrD ((layS D 0 (filesS l)).1) 0 ((hdText (((max (S.g0) (S.g1)) + 1)) ((((filesS l).length : Nat) : Int))))).1)).1).left), .int .i64 (((syncD ((wrD ((layS D 0 (filesS l)).1) 0 ((hdText (((max (S.g0) (S.g1)) + 1)) ((((filesS l).length : Nat) : Int))))).1)).1).n), .map (some (D_held_b)), .slice (D_pend_a1377) (((syncD ((wrD ((layS D 0 (filesS l)).1) 0 ((hdText (((max (S.g0) (S.g1)) + 1)) ((((filesS l).length : Nat) : Int))))).1)).1).pend).length (D_pend_c1378)] 78 :: mpG Mwr (D_held_b) (((syncD ((wrD ((layS D 0 (filesS l)).1) 0 ((hdText (((max (S.g0) (S.g1)) + 1)) ((((filesS l).length : Nat) : Int))))).1)).1).held) (D_held_k1376) :: grow 80 RWr h437 (((syncD ((wrD ((layS D 0 (filesS l)).1) 0 ((hdText (((max (S.g0) (S.g1)) + 1)) ((((filesS l).length : Nat) : Int))))).1)).1).pend) (D_pend_a1377) (D_pend_c1378) :: L) w_) (.inl ⟨.inl rfl, rfl⟩) (fun w_ => invoke_func 26 _ Tryz.call26 w_) (CallsD.mono (rec_ret hS452 (i := 2) rfl) (fun _ _ _ q_ => ⟨q_.1, by rw [q_.2.1]; rfl, q_.2.2⟩)) ?_
              intro w454 hS455
              refine ⟨.int .i64 (0), givesL1 (vs := [.int .i64 (0)]) rfl ⟨⟨w.heap.size, 0, rfl, loadVar1 (hS455.has (i := 2) rfl) (Tryz.isAgg31 _) rfl⟩, trivial⟩ rfl, ?_⟩
              have e_ := comS_ok hr_ c1 hat_ (by assumption) rfl (by assumption) rfl (by assumption)
              have hS456 : St Γ h437 (row (S_b) [.pointer (some ⟨D_b, 0, none⟩), .int .i64 (((max (S.g0) (S.g1)) + 1)), .int .i64 ((((filesS l).length : Nat) : Int)), .int .i64 (S.g1), .int .i64 (S.z1), .slice (r_a448) (l).length (r_c449)] 60 :: grow 29 RFile h437 (l) (r_a448) (r_c449) :: row (D_b) [.bool (((syncD ((wrD ((layS D 0 (filesS l)).1) 0 ((hdText (((max (S.g0) (S.g1)) + 1)) ((((filesS l).length : Nat) : Int))))).1)).1).is), .int .i64 (((syncD ((wrD ((layS D 0 (filesS l)).1) 0 ((hdText (((max (S.g0) (S.g1)) + 1)) ((((filesS l).length : Nat) : Int))))).1)).1).left), .int .i64 (((syncD ((wrD ((layS D 0 (filesS l)).1) 0 ((hdText (((max (S.g0) (S.g1)) + 1)) ((((filesS l).length : Nat) : Int))))).1)).1).n), .map (some (D_held_b)), .slice (D_pend_a1377) (((syncD ((wrD ((layS D 0 (filesS l)).1) 0 ((hdText (((max (S.g0) (S.g1)) + 1)) ((((filesS l).length : Nat) : Int))))).1)).1).pend).length (D_pend_c1378)] 78 :: mpG Mwr (D_held_b) (((syncD ((wrD ((layS D 0 (filesS l)).1) 0 ((hdText (((max (S.g0) (S.g1)) + 1)) ((((filesS l).length : Nat) : Int))))).1)).1).held) (D_held_k1376) :: grow 80 RWr h437 (((syncD ((wrD ((layS D 0 (filesS l)).1) 0 ((hdText (((max (S.g0) (S.g1)) + 1)) ((((filesS l).length : Nat) : Int))))).1)).1).pend) (D_pend_a1377) (D_pend_c1378) :: L) w454 := ((((((((hS455.move (i := 7) rfl).move (i := 7) rfl).move (i := 7) rfl).move (i := 3) rfl).move (i := 6) rfl).remove 7).remove 6).remove 5)
              exact ⟨[row (S_b) [.pointer (some ⟨D_b, 0, none⟩), .int .i64 (((max (S.g0) (S.g1)) + 1)), .int .i64 ((((filesS l).length : Nat) : Int)), .int .i64 (S.g1), .int .i64 (S.z1), .slice (r_a448) (l).length (r_c449)] 60, grow 29 RFile h (l) (r_a448) (r_c449), row (D_b) [.bool (((syncD ((wrD ((layS D 0 (filesS l)).1) 0 ((hdText (((max (S.g0) (S.g1)) + 1)) ((((filesS l).length : Nat) : Int))))).1)).1).is), .int .i64 (((syncD ((wrD ((layS D 0 (filesS l)).1) 0 ((hdText (((max (S.g0) (S.g1)) + 1)) ((((filesS l).length : Nat) : Int))))).1)).1).left), .int .i64 (((syncD ((wrD ((layS D 0 (filesS l)).1) 0 ((hdText (((max (S.g0) (S.g1)) + 1)) ((((filesS l).length : Nat) : Int))))).1)).1).n), .map (some (D_held_b)), .slice (D_pend_a1377) (((syncD ((wrD ((layS D 0 (filesS l)).1) 0 ((hdText (((max (S.g0) (S.g1)) + 1)) ((((filesS l).length : Nat) : Int))))).1)).1).pend).length (D_pend_c1378)] 78, mpG Mwr (D_held_b) (((syncD ((wrD ((layS D 0 (filesS l)).1) 0 ((hdText (((max (S.g0) (S.g1)) + 1)) ((((filesS l).length : Nat) : Int))))).1)).1).held) (D_held_k1376), grow 80 RWr h (((syncD ((wrD ((layS D 0 (filesS l)).1) 0 ((hdText (((max (S.g0) (S.g1)) + 1)) ((((filesS l).length : Nat) : Int))))).1)).1).pend) (D_pend_a1377) (D_pend_c1378)], ⟨r_a448, r_c449, D_held_k1376, D_pend_a1377, D_pend_c1378, (by first | rfl | (rw [e_]; done) | (rw [e_]; rfl)), (by first | rfl | (rw [e_]; done) | (rw [e_]; rfl))⟩, (((hS456.growFree (i := 1) h RFile_free rfl).growFree (i := 4) h RWr_free rfl).weaken_h ((hl248.trans hl342).trans hl438))⟩
  · skip
    have hat_ : 1 - nowS S = 1 := by rw [nowS, if_neg hnow_]; rfl
    have hnw_ : nowS S = 0 := by rw [nowS, if_neg hnow_]
    refine WC.region ?_
    refine S_alloc hS Tryz.zeroValue31 ?_
    intro w458 hS457
    refine WL.nil ?_
    refine then_normal ?_
    refine WCX.seq ?_
    refine WCX.seq ?_
    refine WCX.of ?_
    refine WC.region ?_
    refine WL.val1 (R_move (v := .slice (l_a) (l).length (l_c)) rfl) ?_
    refine S_callP (vs := [.slice (l_a) (l).length (l_c)]) hS457 Tryz.call23 rfl (files_Right (l) (l_a) (l_c) (by first | assumption | omega | exact rightS_sz hr_ | (have := hlp_ 0; have := hlp_ 1; omega) | (dsimp only; omega) | (have := hlp_ 0; have := hlp_ 1; have q_ := wrD_pend (layS D 0 (filesS l)).1 0 (hdText (max S.g0 S.g1 + 1) ((filesS l).length : Nat)); have q2_ := wrD_pend (layS D 1 (filesS l)).1 1 (hdText (max S.g0 S.g1 + 1) ((filesS l).length : Nat)); omega)) (by first | assumption | omega | exact rightS_sz hr_ | (have := hlp_ 0; have := hlp_ 1; omega) | (dsimp only; omega) | (have := hlp_ 0; have := hlp_ 1; have q_ := wrD_pend (layS D 0 (filesS l)).1 0 (hdText (max S.g0 S.g1 + 1) ((filesS l).length : Nat)); have q2_ := wrD_pend (layS D 1 (filesS l)).1 1 (hdText (max S.g0 S.g1 + 1) ((filesS l).length : Nat)); omega))) sl_l ?_
    intro w460 hS459
    refine WL.val1 (R_not (b := rightS l) rfl) ?_
    refine WL.nil ?_
    refine then_normal ?_
    refine WCX.of ?_
    refine WC.condI (¬ ((rightS l) = true)) (b := (!(rightS l))) rfl (b_not Iff.rfl) (fun c0 => ?_) (fun c0 => ?_)
    · skip
      refine WC.seq ?_
      refine WC.region ?_
      refine S_store (i := 0) (b := w.heap.size) (l := [.int .i64 (0)]) (l' := [.int .i64 (5)]) (vs := [.int .i64 (5)]) (v := .int .i64 (5)) hS459 rfl rfl rfl Tryz.sizeOf31 rfl rfl rfl (Nat.le_of_ble_eq_true rfl) rfl rfl ?_
      intro w462 hS461
      refine WL.nil ?_
      refine then_normal ?_
      refine WC.ret ?_
      refine then_ret ?_
      refine topD_ret (.int .i64 (5)) (givesL1 (vs := [.int .i64 (5)]) rfl ⟨⟨w.heap.size, 0, rfl, loadVar1 (hS461.has (i := 0) rfl) (Tryz.isAgg31 _) rfl⟩, trivial⟩ rfl) ?_
      have e_ : comS D S l = (D, S, 5) := comS_form (by simpa using c0)
      have hS463 : St Γ h (row (S_b) [.pointer (some ⟨D_b, 0, none⟩), .int .i64 (S.g0), .int .i64 (S.z0), .int .i64 (S.g1), .int .i64 (S.z1), .slice (S_files_a) (S.files).length (S_files_c)] 60 :: grow 29 RFile h (S.files) (S_files_a) (S_files_c) :: row (D_b) [.bool (D.is), .int .i64 (D.left), .int .i64 (D.n), .map (some (D_held_b)), .slice (D_pend_a) (D.pend).length (D_pend_c)] 78 :: mpG Mwr (D_held_b) (D.held) (D_held_k) :: grow 80 RWr h (D.pend) (D_pend_a) (D_pend_c) :: L) w462 := ((((((hS461.move (i := 5) rfl).move (i := 5) rfl).move (i := 5) rfl).move (i := 5) rfl).move (i := 5) rfl).remove 5)
      exact ⟨[row (S_b) [.pointer (some ⟨D_b, 0, none⟩), .int .i64 (S.g0), .int .i64 (S.z0), .int .i64 (S.g1), .int .i64 (S.z1), .slice (S_files_a) (S.files).length (S_files_c)] 60, grow 29 RFile h (S.files) (S_files_a) (S_files_c), row (D_b) [.bool (D.is), .int .i64 (D.left), .int .i64 (D.n), .map (some (D_held_b)), .slice (D_pend_a) (D.pend).length (D_pend_c)] 78, mpG Mwr (D_held_b) (D.held) (D_held_k), grow 80 RWr h (D.pend) (D_pend_a) (D_pend_c)], ⟨S_files_a, S_files_c, D_held_k, D_pend_a, D_pend_c, (by first | rfl | (rw [e_]; done) | (rw [e_]; rfl)), (by first | rfl | (rw [e_]; done) | (rw [e_]; rfl))⟩, hS463⟩
    · skip
      have hr_ : rightS l = true := by simpa using c0
      have hfl_ := filesS_le hr_
      have hlay_ := fun a => layS_n D a (filesS l)
      have hlp_ := fun a => layS_pend (d := D) (at_ := a) (t := filesS l)
      refine WC.skip ?_
      refine then_normal ?_
      refine WCX.seq ?_
      refine WCX.of ?_
      refine WC.region ?_
      refine WL.val1 (R_move (v := .slice (l_a) (l).length (l_c)) rfl) ?_
      refine S_callP (vs := [.slice (l_a) (l).length (l_c)]) hS459 Tryz.call24 rfl (wire_Files (l) (l_a) (l_c) (by first | assumption | omega | exact rightS_sz hr_ | (have := hlp_ 0; have := hlp_ 1; omega) | (dsimp only; omega) | (have := hlp_ 0; have := hlp_ 1; have q_ := wrD_pend (layS D 0 (filesS l)).1 0 (hdText (max S.g0 S.g1 + 1) ((filesS l).length : Nat)); have q2_ := wrD_pend (layS D 1 (filesS l)).1 1 (hdText (max S.g0 S.g1 + 1) ((filesS l).length : Nat)); omega))) sl_l ?_
      intro w465 hS464
      refine WL.val1 (R_assign (v := .string (B (filesS l))) rfl) ?_
      refine WL.nil ?_
      refine then_normal ?_
      refine WCX.seq ?_
      refine WCX.seq ?_
      refine WCX.of ?_
      refine WC.region ?_
      refine WL.val1 (R_move (v := .string (B (filesS l))) rfl) ?_
      refine WL.val1 (R_slen (a := filesS l) rfl Tryz.underlying9) ?_
      refine WL.val1 (R_move (v := .pointer (some ⟨S_b, 0, none⟩)) rfl) ?_
      refine WL.val1 (R_nilCheck rfl) ?_
      refine WL.val1 (R_fieldAddr (b := S_b) (off := 0) (m := 0) rfl (fun _ => by kernel_rfl)) ?_
      refine WL.val1 (R_load (v := .pointer (some ⟨D_b, 0, none⟩)) rfl (hS464.has (i := 1) rfl) (Tryz.isAgg24 _) rfl) ?_
      have hS468 : St Γ h (row (D_b) [.bool (D.is), .int .i64 (D.left), .int .i64 (D.n), .map (some (D_held_b)), .slice (D_pend_a) (D.pend).length (D_pend_c)] 78 :: mpG Mwr (D_held_b) (D.held) (D_held_k) :: grow 80 RWr h (D.pend) (D_pend_a) (D_pend_c) :: row (w.heap.size) [.int .i64 (0)] 31 :: row (S_b) [.pointer (some ⟨D_b, 0, none⟩), .int .i64 (S.g0), .int .i64 (S.z0), .int .i64 (S.g1), .int .i64 (S.z1), .slice (S_files_a) (S.files).length (S_files_c)] 60 :: grow 29 RFile h (S.files) (S_files_a) (S_files_c) :: emp :: emp :: emp :: L) w465 := (((hS464.front (i := 5) rfl).front (i := 5) rfl).front (i := 5) rfl)
      refine S_callH (vs := [.pointer (some ⟨D_b, 0, none⟩)]) (A := fun hh_ => [row (D_b) [.bool (D.is), .int .i64 (D.left), .int .i64 (D.n), .map (some (D_held_b)), .slice (D_pend_a) (D.pend).length (D_pend_c)] 78, mpG Mwr (D_held_b) (D.held) (D_held_k), grow 80 RWr hh_ (D.pend) (D_pend_a) (D_pend_c)]) (L := row (w.heap.size) [.int .i64 (0)] 31 :: row (S_b) [.pointer (some ⟨D_b, 0, none⟩), .int .i64 (S.g0), .int .i64 (S.z0), .int .i64 (S.g1), .int .i64 (S.z1), .slice (S_files_a) (S.files).length (S_files_c)] 60 :: grow 29 RFile h (S.files) (S_files_a) (S_files_c) :: emp :: emp :: emp :: L) hS468 Tryz.call25 rfl (disk_Len (D) (D_b) (D_held_b) (D_held_k) (D_pend_a) (D_pend_c)) trivial ?_
      intro A469 v470 w467 hp471 hS466
      obtain ⟨rfl, rfl⟩ := hp471
      have hS466 : St Γ h (row (D_b) [.bool (D.is), .int .i64 (D.left), .int .i64 (D.n), .map (some (D_held_b)), .slice (D_pend_a) (D.pend).length (D_pend_c)] 78 :: mpG Mwr (D_held_b) (D.held) (D_held_k) :: grow 80 RWr h (D.pend) (D_pend_a) (D_pend_c) :: row (w.heap.size) [.int .i64 (0)] 31 :: row (S_b) [.pointer (some ⟨D_b, 0, none⟩), .int .i64 (S.g0), .int .i64 (S.z0), .int .i64 (S.g1), .int .i64 (S.z1), .slice (S_files_a) (S.files).length (S_files_c)] 60 :: grow 29 RFile h (S.files) (S_files_a) (S_files_c) :: emp :: emp :: emp :: L) w467 := hS466
      have hS472 : St Γ h (row (w.heap.size) [.int .i64 (0)] 31 :: row (S_b) [.pointer (some ⟨D_b, 0, none⟩), .int .i64 (S.g0), .int .i64 (S.z0), .int .i64 (S.g1), .int .i64 (S.z1), .slice (S_files_a) (S.files).length (S_files_c)] 60 :: grow 29 RFile h (S.files) (S_files_a) (S_files_c) :: row (D_b) [.bool (D.is), .int .i64 (D.left), .int .i64 (D.n), .map (some (D_held_b)), .slice (D_pend_a) (D.pend).length (D_pend_c)] 78 :: mpG Mwr (D_held_b) (D.held) (D_held_k) :: grow 80 RWr h (D.pend) (D_pend_a) (D_pend_c) :: L) w467 := (St.back2 (i := 5) (St.back2 (i := 5) (St.back2 (i := 5) hS466 rfl) rfl) rfl)
      refine S_callP (vs := [.int .i64 (D.n)]) hS472 Tryz.call8 rfl (store_Room (D.n) (by first | assumption | omega | exact rightS_sz hr_ | (have := hlp_ 0; have := hlp_ 1; omega) | (dsimp only; omega) | (have := hlp_ 0; have := hlp_ 1; have q_ := wrD_pend (layS D 0 (filesS l)).1 0 (hdText (max S.g0 S.g1 + 1) ((filesS l).length : Nat)); have q2_ := wrD_pend (layS D 1 (filesS l)).1 1 (hdText (max S.g0 S.g1 + 1) ((filesS l).length : Nat)); omega))) trivial ?_
      intro w474 hS473
      refine WL.val1 (R_gtr (a := (((filesS l).length : Nat) : Int)) (b := (roomS D.n)) rfl rfl) ?_
      refine WL.nil ?_
      refine then_normal ?_
      refine WCX.of ?_
      refine WC.condP ((roomS D.n) < (((filesS l).length : Nat) : Int)) rfl (fun c1 => ?_) (fun c1 => ?_)
      · skip
        refine WC.seq ?_
        refine WC.region ?_
        refine S_store (i := 0) (b := w.heap.size) (l := [.int .i64 (0)]) (l' := [.int .i64 (7)]) (vs := [.int .i64 (7)]) (v := .int .i64 (7)) hS473 rfl rfl rfl Tryz.sizeOf31 rfl rfl rfl (Nat.le_of_ble_eq_true rfl) rfl rfl ?_
        intro w476 hS475
        refine WL.nil ?_
        refine then_normal ?_
        refine WC.ret ?_
        refine then_ret ?_
        refine topD_ret (.int .i64 (7)) (givesL1 (vs := [.int .i64 (7)]) rfl ⟨⟨w.heap.size, 0, rfl, loadVar1 (hS475.has (i := 0) rfl) (Tryz.isAgg31 _) rfl⟩, trivial⟩ rfl) ?_
        have e_ : comS D S l = (D, S, 7) := comS_full hr_ c1
        have hS477 : St Γ h (row (S_b) [.pointer (some ⟨D_b, 0, none⟩), .int .i64 (S.g0), .int .i64 (S.z0), .int .i64 (S.g1), .int .i64 (S.z1), .slice (S_files_a) (S.files).length (S_files_c)] 60 :: grow 29 RFile h (S.files) (S_files_a) (S_files_c) :: row (D_b) [.bool (D.is), .int .i64 (D.left), .int .i64 (D.n), .map (some (D_held_b)), .slice (D_pend_a) (D.pend).length (D_pend_c)] 78 :: mpG Mwr (D_held_b) (D.held) (D_held_k) :: grow 80 RWr h (D.pend) (D_pend_a) (D_pend_c) :: L) w476 := ((((((hS475.move (i := 5) rfl).move (i := 5) rfl).move (i := 5) rfl).move (i := 5) rfl).move (i := 5) rfl).remove 5)
        exact ⟨[row (S_b) [.pointer (some ⟨D_b, 0, none⟩), .int .i64 (S.g0), .int .i64 (S.z0), .int .i64 (S.g1), .int .i64 (S.z1), .slice (S_files_a) (S.files).length (S_files_c)] 60, grow 29 RFile h (S.files) (S_files_a) (S_files_c), row (D_b) [.bool (D.is), .int .i64 (D.left), .int .i64 (D.n), .map (some (D_held_b)), .slice (D_pend_a) (D.pend).length (D_pend_c)] 78, mpG Mwr (D_held_b) (D.held) (D_held_k), grow 80 RWr h (D.pend) (D_pend_a) (D_pend_c)], ⟨S_files_a, S_files_c, D_held_k, D_pend_a, D_pend_c, (by first | rfl | (rw [e_]; done) | (rw [e_]; rfl)), (by first | rfl | (rw [e_]; done) | (rw [e_]; rfl))⟩, hS477⟩
      · skip
        refine WC.skip ?_
        refine then_normal ?_
        refine WCX.seq ?_
        refine WCX.defer (v1 := .func (.func 26) #[] #[.pointer (some ⟨w.heap.size, 0, none⟩)]) (dd := ⟨.fn (.func 26) #[.pointer (some ⟨w.heap.size, 0, none⟩)], #[]⟩) (R_makeFunc rfl) (R_defer rfl) ?_
        refine then_normal ?_
        refine WCX.seq ?_
        refine WCX.of ?_
        refine WC.region ?_
        refine WL.val1 (R_move (v := .pointer (some ⟨S_b, 0, none⟩)) rfl) ?_
        have hS480 : St Γ h (row (S_b) [.pointer (some ⟨D_b, 0, none⟩), .int .i64 (S.g0), .int .i64 (S.z0), .int .i64 (S.g1), .int .i64 (S.z1), .slice (S_files_a) (S.files).length (S_files_c)] 60 :: grow 29 RFile h (S.files) (S_files_a) (S_files_c) :: row (D_b) [.bool (D.is), .int .i64 (D.left), .int .i64 (D.n), .map (some (D_held_b)), .slice (D_pend_a) (D.pend).length (D_pend_c)] 78 :: mpG Mwr (D_held_b) (D.held) (D_held_k) :: grow 80 RWr h (D.pend) (D_pend_a) (D_pend_c) :: row (w.heap.size) [.int .i64 (0)] 31 :: emp :: emp :: emp :: emp :: emp :: L) w474 := (((((hS473.front (i := 5) rfl).front (i := 5) rfl).front (i := 5) rfl).front (i := 5) rfl).front (i := 5) rfl)
        refine S_callH (vs := [.pointer (some ⟨S_b, 0, none⟩)]) (A := fun hh_ => [row (S_b) [.pointer (some ⟨D_b, 0, none⟩), .int .i64 (S.g0), .int .i64 (S.z0), .int .i64 (S.g1), .int .i64 (S.z1), .slice (S_files_a) (S.files).length (S_files_c)] 60, grow 29 RFile hh_ (S.files) (S_files_a) (S_files_c), row (D_b) [.bool (D.is), .int .i64 (D.left), .int .i64 (D.n), .map (some (D_held_b)), .slice (D_pend_a) (D.pend).length (D_pend_c)] 78, mpG Mwr (D_held_b) (D.held) (D_held_k), grow 80 RWr hh_ (D.pend) (D_pend_a) (D_pend_c)]) (L := row (w.heap.size) [.int .i64 (0)] 31 :: emp :: emp :: emp :: emp :: emp :: L) hS480 Tryz.call27 rfl (by have k_ := (store_now (S) (S_b) (S_files_a) (S_files_c) (D) (D_b) (D_held_b) (D_held_k) (D_pend_a) (D_pend_c)); rw [hnw_] at k_; exact k_) (by exact trivial) ?_
        intro A481 v482 w479 hp483 hS478
        obtain ⟨rfl, rfl⟩ := hp483
        have hS478 : St Γ h (row (S_b) [.pointer (some ⟨D_b, 0, none⟩), .int .i64 (S.g0), .int .i64 (S.z0), .int .i64 (S.g1), .int .i64 (S.z1), .slice (S_files_a) (S.files).length (S_files_c)] 60 :: grow 29 RFile h (S.files) (S_files_a) (S_files_c) :: row (D_b) [.bool (D.is), .int .i64 (D.left), .int .i64 (D.n), .map (some (D_held_b)), .slice (D_pend_a) (D.pend).length (D_pend_c)] 78 :: mpG Mwr (D_held_b) (D.held) (D_held_k) :: grow 80 RWr h (D.pend) (D_pend_a) (D_pend_c) :: row (w.heap.size) [.int .i64 (0)] 31 :: emp :: emp :: emp :: emp :: emp :: L) w479 := hS478
        have hS484 : St Γ h (row (w.heap.size) [.int .i64 (0)] 31 :: row (S_b) [.pointer (some ⟨D_b, 0, none⟩), .int .i64 (S.g0), .int .i64 (S.z0), .int .i64 (S.g1), .int .i64 (S.z1), .slice (S_files_a) (S.files).length (S_files_c)] 60 :: grow 29 RFile h (S.files) (S_files_a) (S_files_c) :: row (D_b) [.bool (D.is), .int .i64 (D.left), .int .i64 (D.n), .map (some (D_held_b)), .slice (D_pend_a) (D.pend).length (D_pend_c)] 78 :: mpG Mwr (D_held_b) (D.held) (D_held_k) :: grow 80 RWr h (D.pend) (D_pend_a) (D_pend_c) :: L) w479 := (St.back2 (i := 5) (St.back2 (i := 5) (St.back2 (i := 5) (St.back2 (i := 5) (St.back2 (i := 5) hS478 rfl) rfl) rfl) rfl) rfl)
        refine WL.val1 (R_cast (v' := .int .i64 (1)) (R_sub_i (a := 1) (b := 0) rfl rfl (by omega)) (by rfl)) ?_
        refine WL.val1 (R_assign (v := .int .i64 (1)) rfl) ?_
        refine WL.nil ?_
        refine then_normal ?_
        refine WCX.seq ?_
        refine WCX.of ?_
        refine WC.draw2 (J0 := fun h_ w_ => St Γ h_ (row (w.heap.size) [.int .i64 (0)] 31 :: row (S_b) [.pointer (some ⟨D_b, 0, none⟩), .int .i64 (S.g0), .int .i64 (S.z0), .int .i64 (S.g1), .int .i64 (S.z1), .slice (S_files_a) (S.files).length (S_files_c)] 60 :: grow 29 RFile h (S.files) (S_files_a) (S_files_c) :: row (D_b) [.bool (D.is), .int .i64 (D.left), .int .i64 (D.n), .map (some (D_held_b)), .slice (D_pend_a) (D.pend).length (D_pend_c)] 78 :: mpG Mwr (D_held_b) (D.held) (D_held_k) :: grow 80 RWr h (D.pend) (D_pend_a) (D_pend_c) :: L) w_) (J1 := fun h_ v_ w_ => ∃ b_, v_ = .pointer (some ⟨b_, 0, none⟩) ∧ St Γ h_ (row (b_) [.int .i64 (0), .int .i64 (0)] 57 :: row (w.heap.size) [.int .i64 (0)] 31 :: row (S_b) [.pointer (some ⟨D_b, 0, none⟩), .int .i64 (S.g0), .int .i64 (S.z0), .int .i64 (S.g1), .int .i64 (S.z1), .slice (S_files_a) (S.files).length (S_files_c)] 60 :: grow 29 RFile h (S.files) (S_files_a) (S_files_c) :: row (D_b) [.bool (D.is), .int .i64 (D.left), .int .i64 (D.n), .map (some (D_held_b)), .slice (D_pend_a) (D.pend).length (D_pend_c)] 78 :: mpG Mwr (D_held_b) (D.held) (D_held_k) :: grow 80 RWr h (D.pend) (D_pend_a) (D_pend_c) :: L) w_) 18 17 7 [0, 1, 2, 3, 4, 5, 6, 7, 8, 9, 10, 11, 12, 13, 14, 15, 16] [(0, .pointer (some ⟨S_b, 0, none⟩)), (1, .slice (l_a) (l).length (l_c)), (4, .pointer (some ⟨w.heap.size, 0, none⟩)), (5, .string (B (filesS l))), (6, .int .i64 (1))] [fun _ v => v = .pointer (some ⟨S_b, 0, none⟩), fun _ v => v = .pointer (some ⟨S_b, 0, none⟩), fun _ v => v = .pointer (some ⟨S_b, 1, none⟩), fun _ v => v = .pointer (some ⟨S_b, 1, none⟩), fun _ v => v = .pointer (some ⟨S_b, 1, none⟩), fun _ v => v = .int .i64 (S.g0), fun _ v => v = .pointer (some ⟨S_b, 0, none⟩), fun _ v => v = .pointer (some ⟨S_b, 0, none⟩), fun _ v => v = .pointer (some ⟨S_b, 1, none⟩), fun _ v => v = .pointer (some ⟨S_b, 3, none⟩), fun _ v => v = .pointer (some ⟨S_b, 3, none⟩), fun _ v => v = .int .i64 (S.g1), fun _ v => v = .int .i64 ((max (S.g0) (S.g1))), fun _ v => v = .int .i64 (((max (S.g0) (S.g1)) + 1)), fun _ v => v = .string (B (filesS l)), fun _ v => v = .int .i64 ((((filesS l).length : Nat) : Int)), fun _ v => v = .agg #[.int .i64 (((max (S.g0) (S.g1)) + 1)), .int .i64 ((((filesS l).length : Nat) : Int))], fun _ _ => True] hS484 (fun _ _ _ e_ k_ => k_.ext e_) rfl (by decide) (by kernel_rfl) (by kernel_rfl) (by kernel_rfl) (MonoFs.pure (MonoFs.pure (MonoFs.pure (MonoFs.pure (MonoFs.pure (MonoFs.pure (MonoFs.pure (MonoFs.pure (MonoFs.pure (MonoFs.pure (MonoFs.pure (MonoFs.pure (MonoFs.pure (MonoFs.pure (MonoFs.pure (MonoFs.pure (MonoFs.pure (MonoFs.pure MonoFs.nil)))))))))))))))))) ⟨rfl, rfl, rfl, rfl, rfl, trivial⟩ ⟨?_, ?_, ?_, ?_, ?_, ?_, ?_, ?_, ?_, ?_, ?_, ?_, ?_, ?_, ?_, ?_, ?_, ?_, trivial⟩ ?_
        · refine step2_late (by decide) ?_ ?_
          · intro r_ w560 h561 hl562 hS559 hb_ hp_
            obtain ⟨b0_, b1_, b2_, b3_, b4_, _⟩ := hb_
            refine WL.val1 (R_move (v := .pointer (some ⟨S_b, 0, none⟩)) b0_) ?_
            refine WL.nil ?_
            exact ⟨rfl, _, _, rfl, (Hp.le_refl _), rfl, hS559⟩
          · intro r_ w564 h565 hl566 hJ_ hb_ hp_
            obtain ⟨b_, hv_, hS563⟩ := hJ_
            obtain ⟨b0_, b1_, b2_, b3_, b4_, _⟩ := hb_
            refine WL.val1 (R_move (v := .pointer (some ⟨S_b, 0, none⟩)) b0_) ?_
            refine WL.nil ?_
            exact ⟨rfl, _, _, rfl, (Hp.le_refl _), rfl, b_, hv_, hS563⟩
        · refine step2_late (by decide) ?_ ?_
          · intro r_ w568 h569 hl570 hS567 hb_ hp_
            obtain ⟨b0_, b1_, b2_, b3_, b4_, _⟩ := hb_
            obtain ⟨p0_, _⟩ := hp_
            have p0_ : r_ 26 = .pointer (some ⟨S_b, 0, none⟩) := p0_
            refine WL.val1 (R_nilCheck p0_) ?_
            refine WL.nil ?_
            exact ⟨rfl, _, _, rfl, (Hp.le_refl _), rfl, hS567⟩
          · intro r_ w572 h573 hl574 hJ_ hb_ hp_
            obtain ⟨b_, hv_, hS571⟩ := hJ_
            obtain ⟨b0_, b1_, b2_, b3_, b4_, _⟩ := hb_
            obtain ⟨p0_, _⟩ := hp_
            have p0_ : r_ 26 = .pointer (some ⟨S_b, 0, none⟩) := p0_
            refine WL.val1 (R_nilCheck p0_) ?_
            refine WL.nil ?_
            exact ⟨rfl, _, _, rfl, (Hp.le_refl _), rfl, b_, hv_, hS571⟩
        · refine step2_late (by decide) ?_ ?_
          · intro r_ w576 h577 hl578 hS575 hb_ hp_
            obtain ⟨b0_, b1_, b2_, b3_, b4_, _⟩ := hb_
            obtain ⟨p0_, _⟩ := hp_
            have p0_ : r_ 27 = .pointer (some ⟨S_b, 0, none⟩) := p0_
            refine WL.val1 (R_fieldAddr (b := S_b) (off := 0) (m := 1) p0_ (fun _ => by kernel_rfl)) ?_
            refine WL.nil ?_
            exact ⟨rfl, _, _, rfl, (Hp.le_refl _), rfl, hS575⟩
          · intro r_ w580 h581 hl582 hJ_ hb_ hp_
            obtain ⟨b_, hv_, hS579⟩ := hJ_
            obtain ⟨b0_, b1_, b2_, b3_, b4_, _⟩ := hb_
            obtain ⟨p0_, _⟩ := hp_
            have p0_ : r_ 27 = .pointer (some ⟨S_b, 0, none⟩) := p0_
            refine WL.val1 (R_fieldAddr (b := S_b) (off := 0) (m := 1) p0_ (fun _ => by kernel_rfl)) ?_
            refine WL.nil ?_
            exact ⟨rfl, _, _, rfl, (Hp.le_refl _), rfl, b_, hv_, hS579⟩
        · refine step2_late (by decide) ?_ ?_
          · intro r_ w584 h585 hl586 hS583 hb_ hp_
            obtain ⟨b0_, b1_, b2_, b3_, b4_, _⟩ := hb_
            obtain ⟨p0_, _⟩ := hp_
            have p0_ : r_ 28 = .pointer (some ⟨S_b, 1, none⟩) := p0_
            refine WL.val1 (R_indexArr (b := S_b) (o := 1) (i := 0) (m := 0) p0_ rfl Tryz.underlying58 (Tryz.sizeOf57 _) rfl (by decide)) ?_
            refine WL.nil ?_
            exact ⟨rfl, _, _, rfl, (Hp.le_refl _), rfl, hS583⟩
          · intro r_ w588 h589 hl590 hJ_ hb_ hp_
            obtain ⟨b_, hv_, hS587⟩ := hJ_
            obtain ⟨b0_, b1_, b2_, b3_, b4_, _⟩ := hb_
            obtain ⟨p0_, _⟩ := hp_
            have p0_ : r_ 28 = .pointer (some ⟨S_b, 1, none⟩) := p0_
            refine WL.val1 (R_indexArr (b := S_b) (o := 1) (i := 0) (m := 0) p0_ rfl Tryz.underlying58 (Tryz.sizeOf57 _) rfl (by decide)) ?_
            refine WL.nil ?_
            exact ⟨rfl, _, _, rfl, (Hp.le_refl _), rfl, b_, hv_, hS587⟩
        · refine step2_late (by decide) ?_ ?_
          · intro r_ w592 h593 hl594 hS591 hb_ hp_
            obtain ⟨b0_, b1_, b2_, b3_, b4_, _⟩ := hb_
            obtain ⟨p0_, _⟩ := hp_
            have p0_ : r_ 29 = .pointer (some ⟨S_b, 1, none⟩) := p0_
            refine WL.val1 (R_fieldAddr (b := S_b) (off := 1) (m := 0) p0_ (fun _ => by kernel_rfl)) ?_
            refine WL.nil ?_
            exact ⟨rfl, _, _, rfl, (Hp.le_refl _), rfl, hS591⟩
          · intro r_ w596 h597 hl598 hJ_ hb_ hp_
            obtain ⟨b_, hv_, hS595⟩ := hJ_
            obtain ⟨b0_, b1_, b2_, b3_, b4_, _⟩ := hb_
            obtain ⟨p0_, _⟩ := hp_
            have p0_ : r_ 29 = .pointer (some ⟨S_b, 1, none⟩) := p0_
            refine WL.val1 (R_fieldAddr (b := S_b) (off := 1) (m := 0) p0_ (fun _ => by kernel_rfl)) ?_
            refine WL.nil ?_
            exact ⟨rfl, _, _, rfl, (Hp.le_refl _), rfl, b_, hv_, hS595⟩
        · refine step2_late (by decide) ?_ ?_
          · intro r_ w600 h601 hl602 hS599 hb_ hp_
            obtain ⟨b0_, b1_, b2_, b3_, b4_, _⟩ := hb_
            obtain ⟨p0_, _⟩ := hp_
            have p0_ : r_ 30 = .pointer (some ⟨S_b, 1, none⟩) := p0_
            refine WL.val1 (R_load (v := .int .i64 (S.g0)) p0_ (hS599.has (i := 1) rfl) (Tryz.isAgg3 _) rfl) ?_
            refine WL.nil ?_
            exact ⟨rfl, _, _, rfl, (Hp.le_refl _), rfl, hS599⟩
          · intro r_ w604 h605 hl606 hJ_ hb_ hp_
            obtain ⟨b_, hv_, hS603⟩ := hJ_
            obtain ⟨b0_, b1_, b2_, b3_, b4_, _⟩ := hb_
            obtain ⟨p0_, _⟩ := hp_
            have p0_ : r_ 30 = .pointer (some ⟨S_b, 1, none⟩) := p0_
            refine WL.val1 (R_load (v := .int .i64 (S.g0)) p0_ (hS603.has (i := 2) rfl) (Tryz.isAgg3 _) rfl) ?_
            refine WL.nil ?_
            exact ⟨rfl, _, _, rfl, (Hp.le_refl _), rfl, b_, hv_, hS603⟩
        · refine step2_late (by decide) ?_ ?_
          · intro r_ w608 h609 hl610 hS607 hb_ hp_
            obtain ⟨b0_, b1_, b2_, b3_, b4_, _⟩ := hb_
            refine WL.val1 (R_move (v := .pointer (some ⟨S_b, 0, none⟩)) b0_) ?_
            refine WL.nil ?_
            exact ⟨rfl, _, _, rfl, (Hp.le_refl _), rfl, hS607⟩
          · intro r_ w612 h613 hl614 hJ_ hb_ hp_
            obtain ⟨b_, hv_, hS611⟩ := hJ_
            obtain ⟨b0_, b1_, b2_, b3_, b4_, _⟩ := hb_
            refine WL.val1 (R_move (v := .pointer (some ⟨S_b, 0, none⟩)) b0_) ?_
            refine WL.nil ?_
            exact ⟨rfl, _, _, rfl, (Hp.le_refl _), rfl, b_, hv_, hS611⟩
        · refine step2_late (by decide) ?_ ?_
          · intro r_ w616 h617 hl618 hS615 hb_ hp_
            obtain ⟨b0_, b1_, b2_, b3_, b4_, _⟩ := hb_
            obtain ⟨p0_, _⟩ := hp_
            have p0_ : r_ 32 = .pointer (some ⟨S_b, 0, none⟩) := p0_
            refine WL.val1 (R_nilCheck p0_) ?_
            refine WL.nil ?_
            exact ⟨rfl, _, _, rfl, (Hp.le_refl _), rfl, hS615⟩
          · intro r_ w620 h621 hl622 hJ_ hb_ hp_
            obtain ⟨b_, hv_, hS619⟩ := hJ_
            obtain ⟨b0_, b1_, b2_, b3_, b4_, _⟩ := hb_
            obtain ⟨p0_, _⟩ := hp_
            have p0_ : r_ 32 = .pointer (some ⟨S_b, 0, none⟩) := p0_
            refine WL.val1 (R_nilCheck p0_) ?_
            refine WL.nil ?_
            exact ⟨rfl, _, _, rfl, (Hp.le_refl _), rfl, b_, hv_, hS619⟩
        · refine step2_late (by decide) ?_ ?_
          · intro r_ w624 h625 hl626 hS623 hb_ hp_
            obtain ⟨b0_, b1_, b2_, b3_, b4_, _⟩ := hb_
            obtain ⟨p0_, _⟩ := hp_
            have p0_ : r_ 33 = .pointer (some ⟨S_b, 0, none⟩) := p0_
            refine WL.val1 (R_fieldAddr (b := S_b) (off := 0) (m := 1) p0_ (fun _ => by kernel_rfl)) ?_
            refine WL.nil ?_
            exact ⟨rfl, _, _, rfl, (Hp.le_refl _), rfl, hS623⟩
          · intro r_ w628 h629 hl630 hJ_ hb_ hp_
            obtain ⟨b_, hv_, hS627⟩ := hJ_
            obtain ⟨b0_, b1_, b2_, b3_, b4_, _⟩ := hb_
            obtain ⟨p0_, _⟩ := hp_
            have p0_ : r_ 33 = .pointer (some ⟨S_b, 0, none⟩) := p0_
            refine WL.val1 (R_fieldAddr (b := S_b) (off := 0) (m := 1) p0_ (fun _ => by kernel_rfl)) ?_
            refine WL.nil ?_
            exact ⟨rfl, _, _, rfl, (Hp.le_refl _), rfl, b_, hv_, hS627⟩
        · refine step2_late (by decide) ?_ ?_
          · intro r_ w632 h633 hl634 hS631 hb_ hp_
            obtain ⟨b0_, b1_, b2_, b3_, b4_, _⟩ := hb_
            obtain ⟨p0_, _⟩ := hp_
            have p0_ : r_ 34 = .pointer (some ⟨S_b, 1, none⟩) := p0_
            refine WL.val1 (R_indexArr (b := S_b) (o := 1) (i := 1) (m := 1) p0_ rfl Tryz.underlying58 (Tryz.sizeOf57 _) rfl (by decide)) ?_
            refine WL.nil ?_
            exact ⟨rfl, _, _, rfl, (Hp.le_refl _), rfl, hS631⟩
          · intro r_ w636 h637 hl638 hJ_ hb_ hp_
            obtain ⟨b_, hv_, hS635⟩ := hJ_
            obtain ⟨b0_, b1_, b2_, b3_, b4_, _⟩ := hb_
            obtain ⟨p0_, _⟩ := hp_
            have p0_ : r_ 34 = .pointer (some ⟨S_b, 1, none⟩) := p0_
            refine WL.val1 (R_indexArr (b := S_b) (o := 1) (i := 1) (m := 1) p0_ rfl Tryz.underlying58 (Tryz.sizeOf57 _) rfl (by decide)) ?_
            refine WL.nil ?_
            exact ⟨rfl, _, _, rfl, (Hp.le_refl _), rfl, b_, hv_, hS635⟩
        · refine step2_late (by decide) ?_ ?_
          · intro r_ w640 h641 hl642 hS639 hb_ hp_
            obtain ⟨b0_, b1_, b2_, b3_, b4_, _⟩ := hb_
            obtain ⟨p0_, _⟩ := hp_
            have p0_ : r_ 35 = .pointer (some ⟨S_b, 3, none⟩) := p0_
            refine WL.val1 (R_fieldAddr (b := S_b) (off := 3) (m := 0) p0_ (fun _ => by kernel_rfl)) ?_
            refine WL.nil ?_
            exact ⟨rfl, _, _, rfl, (Hp.le_refl _), rfl, hS639⟩
          · intro r_ w644 h645 hl646 hJ_ hb_ hp_
            obtain ⟨b_, hv_, hS643⟩ := hJ_
            obtain ⟨b0_, b1_, b2_, b3_, b4_, _⟩ := hb_
            obtain ⟨p0_, _⟩ := hp_
            have p0_ : r_ 35 = .pointer (some ⟨S_b, 3, none⟩) := p0_
            refine WL.val1 (R_fieldAddr (b := S_b) (off := 3) (m := 0) p0_ (fun _ => by kernel_rfl)) ?_
            refine WL.nil ?_
            exact ⟨rfl, _, _, rfl, (Hp.le_refl _), rfl, b_, hv_, hS643⟩
        · refine step2_late (by decide) ?_ ?_
          · intro r_ w648 h649 hl650 hS647 hb_ hp_
            obtain ⟨b0_, b1_, b2_, b3_, b4_, _⟩ := hb_
            obtain ⟨p0_, _⟩ := hp_
            have p0_ : r_ 36 = .pointer (some ⟨S_b, 3, none⟩) := p0_
            refine WL.val1 (R_load (v := .int .i64 (S.g1)) p0_ (hS647.has (i := 1) rfl) (Tryz.isAgg3 _) rfl) ?_
            refine WL.nil ?_
            exact ⟨rfl, _, _, rfl, (Hp.le_refl _), rfl, hS647⟩
          · intro r_ w652 h653 hl654 hJ_ hb_ hp_
            obtain ⟨b_, hv_, hS651⟩ := hJ_
            obtain ⟨b0_, b1_, b2_, b3_, b4_, _⟩ := hb_
            obtain ⟨p0_, _⟩ := hp_
            have p0_ : r_ 36 = .pointer (some ⟨S_b, 3, none⟩) := p0_
            refine WL.val1 (R_load (v := .int .i64 (S.g1)) p0_ (hS651.has (i := 2) rfl) (Tryz.isAgg3 _) rfl) ?_
            refine WL.nil ?_
            exact ⟨rfl, _, _, rfl, (Hp.le_refl _), rfl, b_, hv_, hS651⟩
        · refine step2_late (by decide) ?_ ?_
          · intro r_ w656 h657 hl658 hS655 hb_ hp_
            obtain ⟨b0_, b1_, b2_, b3_, b4_, _⟩ := hb_
            obtain ⟨p0_, p1_, _⟩ := hp_
            have p0_ : r_ 31 = .int .i64 (S.g0) := p0_
            have p1_ : r_ 37 = .int .i64 (S.g1) := p1_
            refine WL.val1 (R_max (a := S.g0) (b := S.g1) p0_ p1_) ?_
            refine WL.nil ?_
            exact ⟨rfl, _, _, rfl, (Hp.le_refl _), rfl, hS655⟩
          · intro r_ w660 h661 hl662 hJ_ hb_ hp_
            obtain ⟨b_, hv_, hS659⟩ := hJ_
            obtain ⟨b0_, b1_, b2_, b3_, b4_, _⟩ := hb_
            obtain ⟨p0_, p1_, _⟩ := hp_
            have p0_ : r_ 31 = .int .i64 (S.g0) := p0_
            have p1_ : r_ 37 = .int .i64 (S.g1) := p1_
            refine WL.val1 (R_max (a := S.g0) (b := S.g1) p0_ p1_) ?_
            refine WL.nil ?_
            exact ⟨rfl, _, _, rfl, (Hp.le_refl _), rfl, b_, hv_, hS659⟩
        · refine step2_late (by decide) ?_ ?_
          · intro r_ w664 h665 hl666 hS663 hb_ hp_
            obtain ⟨b0_, b1_, b2_, b3_, b4_, _⟩ := hb_
            obtain ⟨p0_, _⟩ := hp_
            have p0_ : r_ 38 = .int .i64 ((max (S.g0) (S.g1))) := p0_
            refine WL.val1 (R_add_i (a := (max (S.g0) (S.g1))) (b := 1) p0_ rfl (by omega)) ?_
            refine WL.nil ?_
            exact ⟨rfl, _, _, rfl, (Hp.le_refl _), rfl, hS663⟩
          · intro r_ w668 h669 hl670 hJ_ hb_ hp_
            obtain ⟨b_, hv_, hS667⟩ := hJ_
            obtain ⟨b0_, b1_, b2_, b3_, b4_, _⟩ := hb_
            obtain ⟨p0_, _⟩ := hp_
            have p0_ : r_ 38 = .int .i64 ((max (S.g0) (S.g1))) := p0_
            refine WL.val1 (R_add_i (a := (max (S.g0) (S.g1))) (b := 1) p0_ rfl (by omega)) ?_
            refine WL.nil ?_
            exact ⟨rfl, _, _, rfl, (Hp.le_refl _), rfl, b_, hv_, hS667⟩
        · refine step2_late (by decide) ?_ ?_
          · intro r_ w672 h673 hl674 hS671 hb_ hp_
            obtain ⟨b0_, b1_, b2_, b3_, b4_, _⟩ := hb_
            refine WL.val1 (R_move (v := .string (B (filesS l))) b3_) ?_
            refine WL.nil ?_
            exact ⟨rfl, _, _, rfl, (Hp.le_refl _), rfl, hS671⟩
          · intro r_ w676 h677 hl678 hJ_ hb_ hp_
            obtain ⟨b_, hv_, hS675⟩ := hJ_
            obtain ⟨b0_, b1_, b2_, b3_, b4_, _⟩ := hb_
            refine WL.val1 (R_move (v := .string (B (filesS l))) b3_) ?_
            refine WL.nil ?_
            exact ⟨rfl, _, _, rfl, (Hp.le_refl _), rfl, b_, hv_, hS675⟩
        · refine step2_late (by decide) ?_ ?_
          · intro r_ w680 h681 hl682 hS679 hb_ hp_
            obtain ⟨b0_, b1_, b2_, b3_, b4_, _⟩ := hb_
            obtain ⟨p0_, _⟩ := hp_
            have p0_ : r_ 40 = .string (B (filesS l)) := p0_
            refine WL.val1 (R_slen (a := filesS l) p0_ Tryz.underlying9) ?_
            refine WL.nil ?_
            exact ⟨rfl, _, _, rfl, (Hp.le_refl _), rfl, hS679⟩
          · intro r_ w684 h685 hl686 hJ_ hb_ hp_
            obtain ⟨b_, hv_, hS683⟩ := hJ_
            obtain ⟨b0_, b1_, b2_, b3_, b4_, _⟩ := hb_
            obtain ⟨p0_, _⟩ := hp_
            have p0_ : r_ 40 = .string (B (filesS l)) := p0_
            refine WL.val1 (R_slen (a := filesS l) p0_ Tryz.underlying9) ?_
            refine WL.nil ?_
            exact ⟨rfl, _, _, rfl, (Hp.le_refl _), rfl, b_, hv_, hS683⟩
        · refine step2_late (by decide) ?_ ?_
          · intro r_ w688 h689 hl690 hS687 hb_ hp_
            obtain ⟨b0_, b1_, b2_, b3_, b4_, _⟩ := hb_
            obtain ⟨p0_, p1_, _⟩ := hp_
            have p0_ : r_ 39 = .int .i64 (((max (S.g0) (S.g1)) + 1)) := p0_
            have p1_ : r_ 41 = .int .i64 ((((filesS l).length : Nat) : Int)) := p1_
            refine WL.val1 (R_build (vs := [(0, .int .i64 (((max (S.g0) (S.g1)) + 1))), (1, .int .i64 ((((filesS l).length : Nat) : Int)))]) (v := .agg #[.int .i64 (((max (S.g0) (S.g1)) + 1)), .int .i64 ((((filesS l).length : Nat) : Int))]) (pmap2 p0_ p1_) (fun _ => by kernel_rfl)) ?_
            refine WL.nil ?_
            exact ⟨rfl, _, _, rfl, (Hp.le_refl _), rfl, hS687⟩
          · intro r_ w692 h693 hl694 hJ_ hb_ hp_
            obtain ⟨b_, hv_, hS691⟩ := hJ_
            obtain ⟨b0_, b1_, b2_, b3_, b4_, _⟩ := hb_
            obtain ⟨p0_, p1_, _⟩ := hp_
            have p0_ : r_ 39 = .int .i64 (((max (S.g0) (S.g1)) + 1)) := p0_
            have p1_ : r_ 41 = .int .i64 ((((filesS l).length : Nat) : Int)) := p1_
            refine WL.val1 (R_build (vs := [(0, .int .i64 (((max (S.g0) (S.g1)) + 1))), (1, .int .i64 ((((filesS l).length : Nat) : Int)))]) (v := .agg #[.int .i64 (((max (S.g0) (S.g1)) + 1)), .int .i64 ((((filesS l).length : Nat) : Int))]) (pmap2 p0_ p1_) (fun _ => by kernel_rfl)) ?_
            refine WL.nil ?_
            exact ⟨rfl, _, _, rfl, (Hp.le_refl _), rfl, b_, hv_, hS691⟩
        · refine step2_s (by decide) ?_
          · intro r_ w696 h697 hl698 hS695 hb_ hp_
            obtain ⟨b0_, b1_, b2_, b3_, b4_, _⟩ := hb_
            refine S_alloc hS695 Tryz.zeroValue57 ?_
            intro w700 hS699
            refine WL.nil ?_
            exact ⟨rfl, _, _, rfl, (Hp.le_refl _), trivial, w696.heap.size, rfl, hS699⟩
        · intro r_ w702 h703 hl704 hJ_ hb_ hf_
          obtain ⟨a705, qs_, hS701⟩ := hJ_
          obtain ⟨b0_, b1_, b2_, b3_, b4_, _⟩ := hb_
          have q16_ := AF.get hf_ 16 (d := 42) rfl rfl
          refine WL.frame [(0, .pointer (some ⟨S_b, 0, none⟩)), (1, .slice (l_a) (l).length (l_c)), (4, .pointer (some ⟨w.heap.size, 0, none⟩)), (5, .string (B (filesS l))), (6, .int .i64 (1)), (7, .pointer (some ⟨a705, 0, none⟩)), (42, .agg #[.int .i64 (((max (S.g0) (S.g1)) + 1)), .int .i64 ((((filesS l).length : Nat) : Int))])] ⟨b0_, b1_, b2_, b3_, b4_, qs_, q16_, trivial⟩ (fun r_ => ?_)
          refine S_store (i := 0) (b := a705) (l := [.int .i64 (0), .int .i64 (0)]) (l' := [.int .i64 (((max (S.g0) (S.g1)) + 1)), .int .i64 ((((filesS l).length : Nat) : Int))]) (vs := [.int .i64 (((max (S.g0) (S.g1)) + 1)), .int .i64 ((((filesS l).length : Nat) : Int))]) (v := .agg #[.int .i64 (((max (S.g0) (S.g1)) + 1)), .int .i64 ((((filesS l).length : Nat) : Int))]) hS701 rfl rfl rfl Tryz.sizeOf57 rfl rfl rfl (Nat.le_of_ble_eq_true rfl) rfl rfl ?_
          intro w708 hS707
          refine WL.nil ?_
          refine then_normal ?_
          refine WCX.seq ?_
          refine WCX.of ?_
          refine WC.region ?_
          refine WL.val1 (R_move (v := .pointer (some ⟨S_b, 0, none⟩)) rfl) ?_
          refine WL.val1 (R_move (v := .int .i64 (1)) rfl) ?_
          refine WL.val1 (R_move (v := .string (B (filesS l))) rfl) ?_
          have hS711 := hS707.growMono (i := 3) rfl hl704
          have hS712 := hS711.growMono (i := 6) rfl hl704
          have hS713 : St Γ h703 (row (S_b) [.pointer (some ⟨D_b, 0, none⟩), .int .i64 (S.g0), .int .i64 (S.z0), .int .i64 (S.g1), .int .i64 (S.z1), .slice (S_files_a) (S.files).length (S_files_c)] 60 :: grow 29 RFile h703 (S.files) (S_files_a) (S_files_c) :: row (D_b) [.bool (D.is), .int .i64 (D.left), .int .i64 (D.n), .map (some (D_held_b)), .slice (D_pend_a) (D.pend).length (D_pend_c)] 78 :: mpG Mwr (D_held_b) (D.held) (D_held_k) :: grow 80 RWr h703 (D.pend) (D_pend_a) (D_pend_c) :: row (a705) [.int .i64 (((max (S.g0) (S.g1)) + 1)), .int .i64 ((((filesS l).length : Nat) : Int))] 57 :: row (w.heap.size) [.int .i64 (0)] 31 :: emp :: emp :: emp :: emp :: emp :: L) w708 := (((((hS712.front (i := 6) rfl).front (i := 6) rfl).front (i := 6) rfl).front (i := 6) rfl).front (i := 6) rfl)
          refine S_callX (vs := [.pointer (some ⟨S_b, 0, none⟩), .int .i64 (1), .string (B (filesS l))]) (A := fun hh_ => [row (S_b) [.pointer (some ⟨D_b, 0, none⟩), .int .i64 (S.g0), .int .i64 (S.z0), .int .i64 (S.g1), .int .i64 (S.z1), .slice (S_files_a) (S.files).length (S_files_c)] 60, grow 29 RFile hh_ (S.files) (S_files_a) (S_files_c), row (D_b) [.bool (D.is), .int .i64 (D.left), .int .i64 (D.n), .map (some (D_held_b)), .slice (D_pend_a) (D.pend).length (D_pend_c)] 78, mpG Mwr (D_held_b) (D.held) (D_held_k), grow 80 RWr hh_ (D.pend) (D_pend_a) (D_pend_c)]) (L := row (a705) [.int .i64 (((max (S.g0) (S.g1)) + 1)), .int .i64 ((((filesS l).length : Nat) : Int))] 57 :: row (w.heap.size) [.int .i64 (0)] 31 :: emp :: emp :: emp :: emp :: emp :: L) hS713 Tryz.call28 rfl (store_lay (S) (S_b) (S_files_a) (S_files_c) (D) (D_b) (D_held_b) (D_held_k) (D_pend_a) (D_pend_c) (1) (filesS l) (by first | assumption | omega | exact rightS_sz hr_ | (have := hlp_ 0; have := hlp_ 1; omega) | (dsimp only; omega) | (have := hlp_ 0; have := hlp_ 1; have q_ := wrD_pend (layS D 0 (filesS l)).1 0 (hdText (max S.g0 S.g1 + 1) ((filesS l).length : Nat)); have q2_ := wrD_pend (layS D 1 (filesS l)).1 1 (hdText (max S.g0 S.g1 + 1) ((filesS l).length : Nat)); omega)) (by first | assumption | omega | exact rightS_sz hr_ | (have := hlp_ 0; have := hlp_ 1; omega) | (dsimp only; omega) | (have := hlp_ 0; have := hlp_ 1; have q_ := wrD_pend (layS D 0 (filesS l)).1 0 (hdText (max S.g0 S.g1 + 1) ((filesS l).length : Nat)); have q2_ := wrD_pend (layS D 1 (filesS l)).1 1 (hdText (max S.g0 S.g1 + 1) ((filesS l).length : Nat)); omega)) (by first | assumption | omega | exact rightS_sz hr_ | (have := hlp_ 0; have := hlp_ 1; omega) | (dsimp only; omega) | (have := hlp_ 0; have := hlp_ 1; have q_ := wrD_pend (layS D 0 (filesS l)).1 0 (hdText (max S.g0 S.g1 + 1) ((filesS l).length : Nat)); have q2_ := wrD_pend (layS D 1 (filesS l)).1 1 (hdText (max S.g0 S.g1 + 1) ((filesS l).length : Nat)); omega)) (by first | assumption | omega | exact rightS_sz hr_ | (have := hlp_ 0; have := hlp_ 1; omega) | (dsimp only; omega) | (have := hlp_ 0; have := hlp_ 1; have q_ := wrD_pend (layS D 0 (filesS l)).1 0 (hdText (max S.g0 S.g1 + 1) ((filesS l).length : Nat)); have q2_ := wrD_pend (layS D 1 (filesS l)).1 1 (hdText (max S.g0 S.g1 + 1) ((filesS l).length : Nat)); omega))) trivial ?_ ?_
          · intro A717 c718 w719 hp720 hS721
            obtain ⟨D_held_k1722, D_pend_a1723, D_pend_c1724, rfl, rfl, hf725⟩ := hp720
            have hS721 : St Γ h703 (row (S_b) [.pointer (some ⟨D_b, 0, none⟩), .int .i64 (S.g0), .int .i64 (S.z0), .int .i64 (S.g1), .int .i64 (S.z1), .slice (S_files_a) (S.files).length (S_files_c)] 60 :: grow 29 RFile h703 (S.files) (S_files_a) (S_files_c) :: row (D_b) [.bool (((layS D 1 (filesS l)).1).is), .int .i64 (((layS D 1 (filesS l)).1).left), .int .i64 (((layS D 1 (filesS l)).1).n), .map (some (D_held_b)), .slice (D_pend_a1723) (((layS D 1 (filesS l)).1).pend).length (D_pend_c1724)] 78 :: mpG Mwr (D_held_b) (((layS D 1 (filesS l)).1).held) (D_held_k1722) :: grow 80 RWr h703 (((layS D 1 (filesS l)).1).pend) (D_pend_a1723) (D_pend_c1724) :: row (a705) [.int .i64 (((max (S.g0) (S.g1)) + 1)), .int .i64 ((((filesS l).length : Nat) : Int))] 57 :: row (w.heap.size) [.int .i64 (0)] 31 :: emp :: emp :: emp :: emp :: emp :: L) w719 := hS721
            have hS726 : St Γ h703 (row (a705) [.int .i64 (((max (S.g0) (S.g1)) + 1)), .int .i64 ((((filesS l).length : Nat) : Int))] 57 :: row (w.heap.size) [.int .i64 (0)] 31 :: row (S_b) [.pointer (some ⟨D_b, 0, none⟩), .int .i64 (S.g0), .int .i64 (S.z0), .int .i64 (S.g1), .int .i64 (S.z1), .slice (S_files_a) (S.files).length (S_files_c)] 60 :: grow 29 RFile h703 (S.files) (S_files_a) (S_files_c) :: row (D_b) [.bool (((layS D 1 (filesS l)).1).is), .int .i64 (((layS D 1 (filesS l)).1).left), .int .i64 (((layS D 1 (filesS l)).1).n), .map (some (D_held_b)), .slice (D_pend_a1723) (((layS D 1 (filesS l)).1).pend).length (D_pend_c1724)] 78 :: mpG Mwr (D_held_b) (((layS D 1 (filesS l)).1).held) (D_held_k1722) :: grow 80 RWr h703 (((layS D 1 (filesS l)).1).pend) (D_pend_a1723) (D_pend_c1724) :: L) w719 := (St.back2 (i := 6) (St.back2 (i := 6) (St.back2 (i := 6) (St.back2 (i := 6) (St.back2 (i := 6) hS721 rfl) rfl) rfl) rfl) rfl)
            refine then_panic ?_
            refine topD_one (K := fun w_ => St Γ h703 (row (a705) [.int .i64 (((max (S.g0) (S.g1)) + 1)), .int .i64 ((((filesS l).length : Nat) : Int))] 57 :: row (w.heap.size) [.int .i64 ((layS D 1 (filesS l)).2)] 31 :: row (S_b) [.pointer (some ⟨D_b, 0, none⟩), .int .i64 (S.g0), .int .i64 (S.z0), .int .i64 (S.g1), .int .i64 (S.z1), .slice (S_files_a) (S.files).length (S_files_c)] 60 :: grow 29 RFile h703 (S.files) (S_files_a) (S_files_c) :: row (D_b) [.bool (((layS D 1 (filesS l)).1).is), .int .i64 (((layS D 1 (filesS l)).1).left), .int .i64 (((layS D 1 (filesS l)).1).n), .map (some (D_held_b)), .slice (D_pend_a1723) (((layS D 1 (filesS l)).1).pend).length (D_pend_c1724)] 78 :: mpG Mwr (D_held_b) (((layS D 1 (filesS l)).1).held) (D_held_k1722) :: grow 80 RWr h703 (((layS D 1 (filesS l)).1).pend) (D_pend_a1723) (D_pend_c1724) :: L) w_) (.inr ⟨_, rfl, rfl⟩) (fun w_ => invoke_func 26 _ Tryz.call26 w_) (CallsD.mono (rec_pan hS726 (i := 1) rfl) (fun _ _ _ q_ => ⟨q_.1, by rw [q_.2.1]; rfl, q_.2.2⟩)) ?_
            intro w727 hS728
            refine ⟨.int .i64 ((layS D 1 (filesS l)).2), givesL1 (vs := [.int .i64 ((layS D 1 (filesS l)).2)]) rfl ⟨⟨w.heap.size, 0, rfl, loadVar1 (hS728.has (i := 1) rfl) (Tryz.isAgg31 _) rfl⟩, trivial⟩ rfl, ?_⟩
            have e_ := comS_lay hr_ c1 hat_ (by assumption)
            have hS729 : St Γ h703 (row (S_b) [.pointer (some ⟨D_b, 0, none⟩), .int .i64 (S.g0), .int .i64 (S.z0), .int .i64 (S.g1), .int .i64 (S.z1), .slice (S_files_a) (S.files).length (S_files_c)] 60 :: grow 29 RFile h703 (S.files) (S_files_a) (S_files_c) :: row (D_b) [.bool (((layS D 1 (filesS l)).1).is), .int .i64 (((layS D 1 (filesS l)).1).left), .int .i64 (((layS D 1 (filesS l)).1).n), .map (some (D_held_b)), .slice (D_pend_a1723) (((layS D 1 (filesS l)).1).pend).length (D_pend_c1724)] 78 :: mpG Mwr (D_held_b) (((layS D 1 (filesS l)).1).held) (D_held_k1722) :: grow 80 RWr h703 (((layS D 1 (filesS l)).1).pend) (D_pend_a1723) (D_pend_c1724) :: L) w727 := (((((((hS728.move (i := 6) rfl).move (i := 6) rfl).move (i := 6) rfl).move (i := 6) rfl).move (i := 6) rfl).remove 6).remove 5)
            exact ⟨[row (S_b) [.pointer (some ⟨D_b, 0, none⟩), .int .i64 (S.g0), .int .i64 (S.z0), .int .i64 (S.g1), .int .i64 (S.z1), .slice (S_files_a) (S.files).length (S_files_c)] 60, grow 29 RFile h (S.files) (S_files_a) (S_files_c), row (D_b) [.bool (((layS D 1 (filesS l)).1).is), .int .i64 (((layS D 1 (filesS l)).1).left), .int .i64 (((layS D 1 (filesS l)).1).n), .map (some (D_held_b)), .slice (D_pend_a1723) (((layS D 1 (filesS l)).1).pend).length (D_pend_c1724)] 78, mpG Mwr (D_held_b) (((layS D 1 (filesS l)).1).held) (D_held_k1722), grow 80 RWr h (((layS D 1 (filesS l)).1).pend) (D_pend_a1723) (D_pend_c1724)], ⟨S_files_a, S_files_c, D_held_k1722, D_pend_a1723, D_pend_c1724, (by first | rfl | (rw [e_]; done) | (rw [e_]; rfl)), (by first | rfl | (rw [e_]; done) | (rw [e_]; rfl))⟩, (((hS729.growFree (i := 1) h RFile_free rfl).growFree (i := 4) h RWr_free rfl).weaken_h hl704)⟩
          intro A714 v715 w710 hp716 hS709
          obtain ⟨D_held_k1730, D_pend_a1731, D_pend_c1732, rfl, rfl, hf733⟩ := hp716
          have hS709 : St Γ h703 (row (S_b) [.pointer (some ⟨D_b, 0, none⟩), .int .i64 (S.g0), .int .i64 (S.z0), .int .i64 (S.g1), .int .i64 (S.z1), .slice (S_files_a) (S.files).length (S_files_c)] 60 :: grow 29 RFile h703 (S.files) (S_files_a) (S_files_c) :: row (D_b) [.bool (((layS D 1 (filesS l)).1).is), .int .i64 (((layS D 1 (filesS l)).1).left), .int .i64 (((layS D 1 (filesS l)).1).n), .map (some (D_held_b)), .slice (D_pend_a1731) (((layS D 1 (filesS l)).1).pend).length (D_pend_c1732)] 78 :: mpG Mwr (D_held_b) (((layS D 1 (filesS l)).1).held) (D_held_k1730) :: grow 80 RWr h703 (((layS D 1 (filesS l)).1).pend) (D_pend_a1731) (D_pend_c1732) :: row (a705) [.int .i64 (((max (S.g0) (S.g1)) + 1)), .int .i64 ((((filesS l).length : Nat) : Int))] 57 :: row (w.heap.size) [.int .i64 (0)] 31 :: emp :: emp :: emp :: emp :: emp :: L) w710 := hS709
          have hS734 : St Γ h703 (row (a705) [.int .i64 (((max (S.g0) (S.g1)) + 1)), .int .i64 ((((filesS l).length : Nat) : Int))] 57 :: row (w.heap.size) [.int .i64 (0)] 31 :: row (S_b) [.pointer (some ⟨D_b, 0, none⟩), .int .i64 (S.g0), .int .i64 (S.z0), .int .i64 (S.g1), .int .i64 (S.z1), .slice (S_files_a) (S.files).length (S_files_c)] 60 :: grow 29 RFile h703 (S.files) (S_files_a) (S_files_c) :: row (D_b) [.bool (((layS D 1 (filesS l)).1).is), .int .i64 (((layS D 1 (filesS l)).1).left), .int .i64 (((layS D 1 (filesS l)).1).n), .map (some (D_held_b)), .slice (D_pend_a1731) (((layS D 1 (filesS l)).1).pend).length (D_pend_c1732)] 78 :: mpG Mwr (D_held_b) (((layS D 1 (filesS l)).1).held) (D_held_k1730) :: grow 80 RWr h703 (((layS D 1 (filesS l)).1).pend) (D_pend_a1731) (D_pend_c1732) :: L) w710 := (St.back2 (i := 6) (St.back2 (i := 6) (St.back2 (i := 6) (St.back2 (i := 6) (St.back2 (i := 6) hS709 rfl) rfl) rfl) rfl) rfl)
          refine WL.nil ?_
          refine then_normal ?_
          refine WCX.seq ?_
          refine WCX.of ?_
          refine WC.draw 7 [(0, .pointer (some ⟨S_b, 0, none⟩)), (1, .slice (l_a) (l).length (l_c)), (4, .pointer (some ⟨w.heap.size, 0, none⟩)), (6, .int .i64 (1)), (7, .pointer (some ⟨a705, 0, none⟩))] [fun _ v => v = .pointer (some ⟨S_b, 0, none⟩), fun _ v => v = .pointer (some ⟨S_b, 0, none⟩), fun _ v => v = .pointer (some ⟨S_b, 0, none⟩), fun _ v => v = .pointer (some ⟨D_b, 0, none⟩), fun _ v => v = .int .i64 (1), fun _ v => v = .agg #[.int .i64 (((max (S.g0) (S.g1)) + 1)), .int .i64 ((((filesS l).length : Nat) : Int))], fun _ v => v = .string (B ((hdText (((max (S.g0) (S.g1)) + 1)) ((((filesS l).length : Nat) : Int)))))] hS734 (by kernel_rfl) (by kernel_rfl) (MonoFs.pure (MonoFs.pure (MonoFs.pure (MonoFs.pure (MonoFs.pure (MonoFs.pure (MonoFs.pure MonoFs.nil))))))) ⟨rfl, rfl, rfl, rfl, rfl, trivial⟩ ⟨?_, ?_, ?_, ?_, ?_, ?_, ?_, trivial⟩ ?_
          · intro r_ w766 h767 hl768 hS765 hb_ hp_
            obtain ⟨b0_, b1_, b2_, b3_, b4_, _⟩ := hb_
            refine WL.val1 (R_move (v := .pointer (some ⟨S_b, 0, none⟩)) b0_) ?_
            refine WL.nil ?_
            exact ⟨rfl, _, _, rfl, (Hp.le_refl _), rfl, hS765⟩
          · intro r_ w770 h771 hl772 hS769 hb_ hp_
            obtain ⟨b0_, b1_, b2_, b3_, b4_, _⟩ := hb_
            obtain ⟨p0_, _⟩ := hp_
            have p0_ : r_ 47 = .pointer (some ⟨S_b, 0, none⟩) := p0_
            refine WL.val1 (R_nilCheck p0_) ?_
            refine WL.nil ?_
            exact ⟨rfl, _, _, rfl, (Hp.le_refl _), rfl, hS769⟩
          · intro r_ w774 h775 hl776 hS773 hb_ hp_
            obtain ⟨b0_, b1_, b2_, b3_, b4_, _⟩ := hb_
            obtain ⟨p0_, _⟩ := hp_
            have p0_ : r_ 48 = .pointer (some ⟨S_b, 0, none⟩) := p0_
            refine WL.val1 (R_fieldAddr (b := S_b) (off := 0) (m := 0) p0_ (fun _ => by kernel_rfl)) ?_
            refine WL.nil ?_
            exact ⟨rfl, _, _, rfl, (Hp.le_refl _), rfl, hS773⟩
          · intro r_ w778 h779 hl780 hS777 hb_ hp_
            obtain ⟨b0_, b1_, b2_, b3_, b4_, _⟩ := hb_
            obtain ⟨p0_, _⟩ := hp_
            have p0_ : r_ 49 = .pointer (some ⟨S_b, 0, none⟩) := p0_
            refine WL.val1 (R_load (v := .pointer (some ⟨D_b, 0, none⟩)) p0_ (hS777.has (i := 2) rfl) (Tryz.isAgg24 _) rfl) ?_
            refine WL.nil ?_
            exact ⟨rfl, _, _, rfl, (Hp.le_refl _), rfl, hS777⟩
          · intro r_ w782 h783 hl784 hS781 hb_ hp_
            obtain ⟨b0_, b1_, b2_, b3_, b4_, _⟩ := hb_
            refine WL.val1 (R_move (v := .int .i64 (1)) b3_) ?_
            refine WL.nil ?_
            exact ⟨rfl, _, _, rfl, (Hp.le_refl _), rfl, hS781⟩
          · intro r_ w786 h787 hl788 hS785 hb_ hp_
            obtain ⟨b0_, b1_, b2_, b3_, b4_, _⟩ := hb_
            refine WL.val1 (R_loadA (cs := [.int .i64 (((max (S.g0) (S.g1)) + 1)), .int .i64 ((((filesS l).length : Nat) : Int))]) b4_ (hS785.has (i := 0) rfl) (Tryz.isAgg57 _) (Tryz.sizeOf57 _) rfl (sub_cells rfl)) ?_
            refine WL.nil ?_
            exact ⟨rfl, _, _, rfl, (Hp.le_refl _), rfl, hS785⟩
          · intro r_ w790 h791 hl792 hS789 hb_ hp_
            obtain ⟨b0_, b1_, b2_, b3_, b4_, _⟩ := hb_
            obtain ⟨p0_, _⟩ := hp_
            have p0_ : r_ 52 = .agg #[.int .i64 (((max (S.g0) (S.g1)) + 1)), .int .i64 ((((filesS l).length : Nat) : Int))] := p0_
            refine S_callP (vs := [.agg #[.int .i64 (((max (S.g0) (S.g1)) + 1)), .int .i64 ((((filesS l).length : Nat) : Int))]]) hS789 Tryz.call31 (hmap1 p0_) (store_text ({ gen := ((max (S.g0) (S.g1)) + 1), size := (((filesS l).length : Nat) : Int) : Hd }) (by first | assumption | omega | exact rightS_sz hr_ | (have := hlp_ 0; have := hlp_ 1; omega) | (dsimp only; omega) | (have := hlp_ 0; have := hlp_ 1; have q_ := wrD_pend (layS D 0 (filesS l)).1 0 (hdText (max S.g0 S.g1 + 1) ((filesS l).length : Nat)); have q2_ := wrD_pend (layS D 1 (filesS l)).1 1 (hdText (max S.g0 S.g1 + 1) ((filesS l).length : Nat)); omega))) trivial ?_
            intro w794 hS793
            refine WL.nil ?_
            exact ⟨rfl, _, _, rfl, (Hp.le_refl _), rfl, hS793⟩
          · intro r_ w796 h797 hl798 hS795 hb_ hf_
            obtain ⟨b0_, b1_, b2_, b3_, b4_, _⟩ := hb_
            have q3_ := AF.get hf_ 3 (d := 50) rfl rfl
            have q4_ := AF.get hf_ 4 (d := 51) rfl rfl
            have q6_ := AF.get hf_ 6 (d := 53) rfl rfl
            refine WL.frame [(0, .pointer (some ⟨S_b, 0, none⟩)), (1, .slice (l_a) (l).length (l_c)), (4, .pointer (some ⟨w.heap.size, 0, none⟩)), (6, .int .i64 (1)), (7, .pointer (some ⟨a705, 0, none⟩)), (50, .pointer (some ⟨D_b, 0, none⟩)), (51, .int .i64 (1)), (53, .string (B ((hdText (((max (S.g0) (S.g1)) + 1)) ((((filesS l).length : Nat) : Int))))))] ⟨b0_, b1_, b2_, b3_, b4_, q3_, q4_, q6_, trivial⟩ (fun r_ => ?_)
            have hS801 := hS795.growMono (i := 3) rfl hl798
            have hS802 := hS801.growMono (i := 6) rfl hl798
            have hS803 : St Γ h797 (row (D_b) [.bool (((layS D 1 (filesS l)).1).is), .int .i64 (((layS D 1 (filesS l)).1).left), .int .i64 (((layS D 1 (filesS l)).1).n), .map (some (D_held_b)), .slice (D_pend_a1731) (((layS D 1 (filesS l)).1).pend).length (D_pend_c1732)] 78 :: mpG Mwr (D_held_b) (((layS D 1 (filesS l)).1).held) (D_held_k1730) :: grow 80 RWr h797 (((layS D 1 (filesS l)).1).pend) (D_pend_a1731) (D_pend_c1732) :: row (a705) [.int .i64 (((max (S.g0) (S.g1)) + 1)), .int .i64 ((((filesS l).length : Nat) : Int))] 57 :: row (w.heap.size) [.int .i64 (0)] 31 :: row (S_b) [.pointer (some ⟨D_b, 0, none⟩), .int .i64 (S.g0), .int .i64 (S.z0), .int .i64 (S.g1), .int .i64 (S.z1), .slice (S_files_a) (S.files).length (S_files_c)] 60 :: grow 29 RFile h797 (S.files) (S_files_a) (S_files_c) :: emp :: emp :: emp :: L) w796 := (((hS802.front (i := 6) rfl).front (i := 6) rfl).front (i := 6) rfl)
            refine S_callH (vs := [.pointer (some ⟨D_b, 0, none⟩), .int .i64 (1), .string (B ((hdText (((max (S.g0) (S.g1)) + 1)) ((((filesS l).length : Nat) : Int)))))]) (A := fun hh_ => [row (D_b) [.bool (((layS D 1 (filesS l)).1).is), .int .i64 (((layS D 1 (filesS l)).1).left), .int .i64 (((layS D 1 (filesS l)).1).n), .map (some (D_held_b)), .slice (D_pend_a1731) (((layS D 1 (filesS l)).1).pend).length (D_pend_c1732)] 78, mpG Mwr (D_held_b) (((layS D 1 (filesS l)).1).held) (D_held_k1730), grow 80 RWr hh_ (((layS D 1 (filesS l)).1).pend) (D_pend_a1731) (D_pend_c1732)]) (L := row (a705) [.int .i64 (((max (S.g0) (S.g1)) + 1)), .int .i64 ((((filesS l).length : Nat) : Int))] 57 :: row (w.heap.size) [.int .i64 (0)] 31 :: row (S_b) [.pointer (some ⟨D_b, 0, none⟩), .int .i64 (S.g0), .int .i64 (S.z0), .int .i64 (S.g1), .int .i64 (S.z1), .slice (S_files_a) (S.files).length (S_files_c)] 60 :: grow 29 RFile h797 (S.files) (S_files_a) (S_files_c) :: emp :: emp :: emp :: L) hS803 Tryz.call30 rfl (disk_Write ((layS D 1 (filesS l)).1) (D_b) (D_held_b) (D_held_k1730) (D_pend_a1731) (D_pend_c1732) (1) ((hdText (((max (S.g0) (S.g1)) + 1)) ((((filesS l).length : Nat) : Int)))) (by first | assumption | omega | exact rightS_sz hr_ | (have := hlp_ 0; have := hlp_ 1; omega) | (dsimp only; omega) | (have := hlp_ 0; have := hlp_ 1; have q_ := wrD_pend (layS D 0 (filesS l)).1 0 (hdText (max S.g0 S.g1 + 1) ((filesS l).length : Nat)); have q2_ := wrD_pend (layS D 1 (filesS l)).1 1 (hdText (max S.g0 S.g1 + 1) ((filesS l).length : Nat)); omega))) trivial ?_
            intro A804 v805 w800 hp806 hS799
            obtain ⟨D_held_k1807, D_pend_a1808, D_pend_c1809, rfl, rfl⟩ := hp806
            have hS799 : St Γ h797 (row (D_b) [.bool (((wrD ((layS D 1 (filesS l)).1) 1 ((hdText (((max (S.g0) (S.g1)) + 1)) ((((filesS l).length : Nat) : Int))))).1).is), .int .i64 (((wrD ((layS D 1 (filesS l)).1) 1 ((hdText (((max (S.g0) (S.g1)) + 1)) ((((filesS l).length : Nat) : Int))))).1).left), .int .i64 (((wrD ((layS D 1 (filesS l)).1) 1 ((hdText (((max (S.g0) (S.g1)) + 1)) ((((filesS l).length : Nat) : Int))))).1).n), .map (some (D_held_b)), .slice (D_pend_a1808) (((wrD ((layS D 1 (filesS l)).1) 1 ((hdText (((max (S.g0) (S.g1)) + 1)) ((((filesS l).length : Nat) : Int))))).1).pend).length (D_pend_c1809)] 78 :: mpG Mwr (D_held_b) (((wrD ((layS D 1 (filesS l)).1) 1 ((hdText (((max (S.g0) (S.g1)) + 1)) ((((filesS l).length : Nat) : Int))))).1).held) (D_held_k1807) :: grow 80 RWr h797 (((wrD ((layS D 1 (filesS l)).1) 1 ((hdText (((max (S.g0) (S.g1)) + 1)) ((((filesS l).length : Nat) : Int))))).1).pend) (D_pend_a1808) (D_pend_c1809) :: row (a705) [.int .i64 (((max (S.g0) (S.g1)) + 1)), .int .i64 ((((filesS l).length : Nat) : Int))] 57 :: row (w.heap.size) [.int .i64 (0)] 31 :: row (S_b) [.pointer (some ⟨D_b, 0, none⟩), .int .i64 (S.g0), .int .i64 (S.z0), .int .i64 (S.g1), .int .i64 (S.z1), .slice (S_files_a) (S.files).length (S_files_c)] 60 :: grow 29 RFile h797 (S.files) (S_files_a) (S_files_c) :: emp :: emp :: emp :: L) w800 := hS799
            have hS810 : St Γ h797 (row (a705) [.int .i64 (((max (S.g0) (S.g1)) + 1)), .int .i64 ((((filesS l).length : Nat) : Int))] 57 :: row (w.heap.size) [.int .i64 (0)] 31 :: row (S_b) [.pointer (some ⟨D_b, 0, none⟩), .int .i64 (S.g0), .int .i64 (S.z0), .int .i64 (S.g1), .int .i64 (S.z1), .slice (S_files_a) (S.files).length (S_files_c)] 60 :: grow 29 RFile h797 (S.files) (S_files_a) (S_files_c) :: row (D_b) [.bool (((wrD ((layS D 1 (filesS l)).1) 1 ((hdText (((max (S.g0) (S.g1)) + 1)) ((((filesS l).length : Nat) : Int))))).1).is), .int .i64 (((wrD ((layS D 1 (filesS l)).1) 1 ((hdText (((max (S.g0) (S.g1)) + 1)) ((((filesS l).length : Nat) : Int))))).1).left), .int .i64 (((wrD ((layS D 1 (filesS l)).1) 1 ((hdText (((max (S.g0) (S.g1)) + 1)) ((((filesS l).length : Nat) : Int))))).1).n), .map (some (D_held_b)), .slice (D_pend_a1808) (((wrD ((layS D 1 (filesS l)).1) 1 ((hdText (((max (S.g0) (S.g1)) + 1)) ((((filesS l).length : Nat) : Int))))).1).pend).length (D_pend_c1809)] 78 :: mpG Mwr (D_held_b) (((wrD ((layS D 1 (filesS l)).1) 1 ((hdText (((max (S.g0) (S.g1)) + 1)) ((((filesS l).length : Nat) : Int))))).1).held) (D_held_k1807) :: grow 80 RWr h797 (((wrD ((layS D 1 (filesS l)).1) 1 ((hdText (((max (S.g0) (S.g1)) + 1)) ((((filesS l).length : Nat) : Int))))).1).pend) (D_pend_a1808) (D_pend_c1809) :: L) w800 := (St.back2 (i := 6) (St.back2 (i := 6) (St.back2 (i := 6) hS799 rfl) rfl) rfl)
            refine S_callX (vs := [.int .i64 ((wrD ((layS D 1 (filesS l)).1) 1 ((hdText (((max (S.g0) (S.g1)) + 1)) ((((filesS l).length : Nat) : Int))))).2)]) (A := fun hh_ => []) (L := row (a705) [.int .i64 (((max (S.g0) (S.g1)) + 1)), .int .i64 ((((filesS l).length : Nat) : Int))] 57 :: row (w.heap.size) [.int .i64 (0)] 31 :: row (S_b) [.pointer (some ⟨D_b, 0, none⟩), .int .i64 (S.g0), .int .i64 (S.z0), .int .i64 (S.g1), .int .i64 (S.z1), .slice (S_files_a) (S.files).length (S_files_c)] 60 :: grow 29 RFile h797 (S.files) (S_files_a) (S_files_c) :: row (D_b) [.bool (((wrD ((layS D 1 (filesS l)).1) 1 ((hdText (((max (S.g0) (S.g1)) + 1)) ((((filesS l).length : Nat) : Int))))).1).is), .int .i64 (((wrD ((layS D 1 (filesS l)).1) 1 ((hdText (((max (S.g0) (S.g1)) + 1)) ((((filesS l).length : Nat) : Int))))).1).left), .int .i64 (((wrD ((layS D 1 (filesS l)).1) 1 ((hdText (((max (S.g0) (S.g1)) + 1)) ((((filesS l).length : Nat) : Int))))).1).n), .map (some (D_held_b)), .slice (D_pend_a1808) (((wrD ((layS D 1 (filesS l)).1) 1 ((hdText (((max (S.g0) (S.g1)) + 1)) ((((filesS l).length : Nat) : Int))))).1).pend).length (D_pend_c1809)] 78 :: mpG Mwr (D_held_b) (((wrD ((layS D 1 (filesS l)).1) 1 ((hdText (((max (S.g0) (S.g1)) + 1)) ((((filesS l).length : Nat) : Int))))).1).held) (D_held_k1807) :: grow 80 RWr h797 (((wrD ((layS D 1 (filesS l)).1) 1 ((hdText (((max (S.g0) (S.g1)) + 1)) ((((filesS l).length : Nat) : Int))))).1).pend) (D_pend_a1808) (D_pend_c1809) :: L) hS810 Tryz.call29 rfl (store_must ((wrD ((layS D 1 (filesS l)).1) 1 ((hdText (((max (S.g0) (S.g1)) + 1)) ((((filesS l).length : Nat) : Int))))).2)) trivial ?_ ?_
            · intro A816 c817 w818 hp819 hS820
              obtain ⟨rfl, rfl, hf821⟩ := hp819
              have hS820 : St Γ h797 (row (a705) [.int .i64 (((max (S.g0) (S.g1)) + 1)), .int .i64 ((((filesS l).length : Nat) : Int))] 57 :: row (w.heap.size) [.int .i64 (0)] 31 :: row (S_b) [.pointer (some ⟨D_b, 0, none⟩), .int .i64 (S.g0), .int .i64 (S.z0), .int .i64 (S.g1), .int .i64 (S.z1), .slice (S_files_a) (S.files).length (S_files_c)] 60 :: grow 29 RFile h797 (S.files) (S_files_a) (S_files_c) :: row (D_b) [.bool (((wrD ((layS D 1 (filesS l)).1) 1 ((hdText (((max (S.g0) (S.g1)) + 1)) ((((filesS l).length : Nat) : Int))))).1).is), .int .i64 (((wrD ((layS D 1 (filesS l)).1) 1 ((hdText (((max (S.g0) (S.g1)) + 1)) ((((filesS l).length : Nat) : Int))))).1).left), .int .i64 (((wrD ((layS D 1 (filesS l)).1) 1 ((hdText (((max (S.g0) (S.g1)) + 1)) ((((filesS l).length : Nat) : Int))))).1).n), .map (some (D_held_b)), .slice (D_pend_a1808) (((wrD ((layS D 1 (filesS l)).1) 1 ((hdText (((max (S.g0) (S.g1)) + 1)) ((((filesS l).length : Nat) : Int))))).1).pend).length (D_pend_c1809)] 78 :: mpG Mwr (D_held_b) (((wrD ((layS D 1 (filesS l)).1) 1 ((hdText (((max (S.g0) (S.g1)) + 1)) ((((filesS l).length : Nat) : Int))))).1).held) (D_held_k1807) :: grow 80 RWr h797 (((wrD ((layS D 1 (filesS l)).1) 1 ((hdText (((max (S.g0) (S.g1)) + 1)) ((((filesS l).length : Nat) : Int))))).1).pend) (D_pend_a1808) (D_pend_c1809) :: L) w818 := hS820
              refine then_panic ?_
              refine topD_one (K := fun w_ => St Γ h797 (row (a705) [.int .i64 (((max (S.g0) (S.g1)) + 1)), .int .i64 ((((filesS l).length : Nat) : Int))] 57 :: row (w.heap.size) [.int .i64 (((wrD ((layS D 1 (filesS l)).1) 1 ((hdText (((max (S.g0) (S.g1)) + 1)) ((((filesS l).length : Nat) : Int))))).2))] 31 :: row (S_b) [.pointer (some ⟨D_b, 0, none⟩), .int .i64 (S.g0), .int .i64 (S.z0), .int .i64 (S.g1), .int .i64 (S.z1), .slice (S_files_a) (S.files).length (S_files_c)] 60 :: grow 29 RFile h797 (S.files) (S_files_a) (S_files_c) :: row (D_b) [.bool (((wrD ((layS D 1 (filesS l)).1) 1 ((hdText (((max (S.g0) (S.g1)) + 1)) ((((filesS l).length : Nat) : Int))))).1).is), .int .i64 (((wrD ((layS D 1 (filesS l)).1) 1 ((hdText (((max (S.g0) (S.g1)) + 1)) ((((filesS l).length : Nat) : Int))))).1).left), .int .i64 (((wrD ((layS D 1 (filesS l)).1) 1 ((hdText (((max (S.g0) (S.g1)) + 1)) ((((filesS l).length : Nat) : Int))))).1).n), .map (some (D_held_b)), .slice (D_pend_a1808) (((wrD ((layS D 1 (filesS l)).1) 1 ((hdText (((max (S.g0) (S.g1)) + 1)) ((((filesS l).length : Nat) : Int))))).1).pend).length (D_pend_c1809)] 78 :: mpG Mwr (D_held_b) (((wrD ((layS D 1 (filesS l)).1) 1 ((hdText (((max (S.g0) (S.g1)) + 1)) ((((filesS l).length : Nat) : Int))))).1).held) (D_held_k1807) :: grow 80 RWr h797 (((wrD ((layS D 1 (filesS l)).1) 1 ((hdText (((max (S.g0) (S.g1)) + 1)) ((((filesS l).length : Nat) : Int))))).1).pend) (D_pend_a1808) (D_pend_c1809) :: L) w_) (.inr ⟨_, rfl, rfl⟩) (fun w_ => invoke_func 26 _ Tryz.call26 w_) (CallsD.mono (rec_pan hS820 (i := 1) rfl) (fun _ _ _ q_ => ⟨q_.1, by rw [q_.2.1]; rfl, q_.2.2⟩)) ?_
              intro w822 hS823
              refine ⟨.int .i64 (((wrD ((layS D 1 (filesS l)).1) 1 ((hdText (((max (S.g0) (S.g1)) + 1)) ((((filesS l).length : Nat) : Int))))).2)), givesL1 (vs := [.int .i64 (((wrD ((layS D 1 (filesS l)).1) 1 ((hdText (((max (S.g0) (S.g1)) + 1)) ((((filesS l).length : Nat) : Int))))).2))]) rfl ⟨⟨w.heap.size, 0, rfl, loadVar1 (hS823.has (i := 1) rfl) (Tryz.isAgg31 _) rfl⟩, trivial⟩ rfl, ?_⟩
              have e_ := comS_hd hr_ c1 hat_ (by assumption) rfl (by assumption)
              have hS824 : St Γ h797 (row (S_b) [.pointer (some ⟨D_b, 0, none⟩), .int .i64 (S.g0), .int .i64 (S.z0), .int .i64 (S.g1), .int .i64 (S.z1), .slice (S_files_a) (S.files).length (S_files_c)] 60 :: grow 29 RFile h797 (S.files) (S_files_a) (S_files_c) :: row (D_b) [.bool (((wrD ((layS D 1 (filesS l)).1) 1 ((hdText (((max (S.g0) (S.g1)) + 1)) ((((filesS l).length : Nat) : Int))))).1).is), .int .i64 (((wrD ((layS D 1 (filesS l)).1) 1 ((hdText (((max (S.g0) (S.g1)) + 1)) ((((filesS l).length : Nat) : Int))))).1).left), .int .i64 (((wrD ((layS D 1 (filesS l)).1) 1 ((hdText (((max (S.g0) (S.g1)) + 1)) ((((filesS l).length : Nat) : Int))))).1).n), .map (some (D_held_b)), .slice (D_pend_a1808) (((wrD ((layS D 1 (filesS l)).1) 1 ((hdText (((max (S.g0) (S.g1)) + 1)) ((((filesS l).length : Nat) : Int))))).1).pend).length (D_pend_c1809)] 78 :: mpG Mwr (D_held_b) (((wrD ((layS D 1 (filesS l)).1) 1 ((hdText (((max (S.g0) (S.g1)) + 1)) ((((filesS l).length : Nat) : Int))))).1).held) (D_held_k1807) :: grow 80 RWr h797 (((wrD ((layS D 1 (filesS l)).1) 1 ((hdText (((max (S.g0) (S.g1)) + 1)) ((((filesS l).length : Nat) : Int))))).1).pend) (D_pend_a1808) (D_pend_c1809) :: L) w822 := (((((((hS823.move (i := 6) rfl).move (i := 6) rfl).move (i := 6) rfl).move (i := 6) rfl).move (i := 6) rfl).remove 6).remove 5)
              exact ⟨[row (S_b) [.pointer (some ⟨D_b, 0, none⟩), .int .i64 (S.g0), .int .i64 (S.z0), .int .i64 (S.g1), .int .i64 (S.z1), .slice (S_files_a) (S.files).length (S_files_c)] 60, grow 29 RFile h (S.files) (S_files_a) (S_files_c), row (D_b) [.bool (((wrD ((layS D 1 (filesS l)).1) 1 ((hdText (((max (S.g0) (S.g1)) + 1)) ((((filesS l).length : Nat) : Int))))).1).is), .int .i64 (((wrD ((layS D 1 (filesS l)).1) 1 ((hdText (((max (S.g0) (S.g1)) + 1)) ((((filesS l).length : Nat) : Int))))).1).left), .int .i64 (((wrD ((layS D 1 (filesS l)).1) 1 ((hdText (((max (S.g0) (S.g1)) + 1)) ((((filesS l).length : Nat) : Int))))).1).n), .map (some (D_held_b)), .slice (D_pend_a1808) (((wrD ((layS D 1 (filesS l)).1) 1 ((hdText (((max (S.g0) (S.g1)) + 1)) ((((filesS l).length : Nat) : Int))))).1).pend).length (D_pend_c1809)] 78, mpG Mwr (D_held_b) (((wrD ((layS D 1 (filesS l)).1) 1 ((hdText (((max (S.g0) (S.g1)) + 1)) ((((filesS l).length : Nat) : Int))))).1).held) (D_held_k1807), grow 80 RWr h (((wrD ((layS D 1 (filesS l)).1) 1 ((hdText (((max (S.g0) (S.g1)) + 1)) ((((filesS l).length : Nat) : Int))))).1).pend) (D_pend_a1808) (D_pend_c1809)], ⟨S_files_a, S_files_c, D_held_k1807, D_pend_a1808, D_pend_c1809, (by first | rfl | (rw [e_]; done) | (rw [e_]; rfl)), (by first | rfl | (rw [e_]; done) | (rw [e_]; rfl))⟩, (((hS824.growFree (i := 1) h RFile_free rfl).growFree (i := 4) h RWr_free rfl).weaken_h (hl704.trans hl798))⟩
            intro A813 v814 w812 hp815 hS811
            obtain ⟨rfl, rfl, hf825⟩ := hp815
            have hS811 : St Γ h797 (row (a705) [.int .i64 (((max (S.g0) (S.g1)) + 1)), .int .i64 ((((filesS l).length : Nat) : Int))] 57 :: row (w.heap.size) [.int .i64 (0)] 31 :: row (S_b) [.pointer (some ⟨D_b, 0, none⟩), .int .i64 (S.g0), .int .i64 (S.z0), .int .i64 (S.g1), .int .i64 (S.z1), .slice (S_files_a) (S.files).length (S_files_c)] 60 :: grow 29 RFile h797 (S.files) (S_files_a) (S_files_c) :: row (D_b) [.bool (((wrD ((layS D 1 (filesS l)).1) 1 ((hdText (((max (S.g0) (S.g1)) + 1)) ((((filesS l).length : Nat) : Int))))).1).is), .int .i64 (((wrD ((layS D 1 (filesS l)).1) 1 ((hdText (((max (S.g0) (S.g1)) + 1)) ((((filesS l).length : Nat) : Int))))).1).left), .int .i64 (((wrD ((layS D 1 (filesS l)).1) 1 ((hdText (((max (S.g0) (S.g1)) + 1)) ((((filesS l).length : Nat) : Int))))).1).n), .map (some (D_held_b)), .slice (D_pend_a1808) (((wrD ((layS D 1 (filesS l)).1) 1 ((hdText (((max (S.g0) (S.g1)) + 1)) ((((filesS l).length : Nat) : Int))))).1).pend).length (D_pend_c1809)] 78 :: mpG Mwr (D_held_b) (((wrD ((layS D 1 (filesS l)).1) 1 ((hdText (((max (S.g0) (S.g1)) + 1)) ((((filesS l).length : Nat) : Int))))).1).held) (D_held_k1807) :: grow 80 RWr h797 (((wrD ((layS D 1 (filesS l)).1) 1 ((hdText (((max (S.g0) (S.g1)) + 1)) ((((filesS l).length : Nat) : Int))))).1).pend) (D_pend_a1808) (D_pend_c1809) :: L) w812 := hS811
            refine WL.nil ?_
            refine then_normal ?_
            refine WCX.seq ?_
            refine WCX.of ?_
            refine WC.region ?_
            refine WL.val1 (R_move (v := .pointer (some ⟨S_b, 0, none⟩)) rfl) ?_
            refine WL.val1 (R_nilCheck rfl) ?_
            refine WL.val1 (R_fieldAddr (b := S_b) (off := 0) (m := 0) rfl (fun _ => by kernel_rfl)) ?_
            refine WL.val1 (R_load (v := .pointer (some ⟨D_b, 0, none⟩)) rfl (hS811.has (i := 2) rfl) (Tryz.isAgg24 _) rfl) ?_
            have hS828 : St Γ h797 (row (D_b) [.bool (((wrD ((layS D 1 (filesS l)).1) 1 ((hdText (((max (S.g0) (S.g1)) + 1)) ((((filesS l).length : Nat) : Int))))).1).is), .int .i64 (((wrD ((layS D 1 (filesS l)).1) 1 ((hdText (((max (S.g0) (S.g1)) + 1)) ((((filesS l).length : Nat) : Int))))).1).left), .int .i64 (((wrD ((layS D 1 (filesS l)).1) 1 ((hdText (((max (S.g0) (S.g1)) + 1)) ((((filesS l).length : Nat) : Int))))).1).n), .map (some (D_held_b)), .slice (D_pend_a1808) (((wrD ((layS D 1 (filesS l)).1) 1 ((hdText (((max (S.g0) (S.g1)) + 1)) ((((filesS l).length : Nat) : Int))))).1).pend).length (D_pend_c1809)] 78 :: mpG Mwr (D_held_b) (((wrD ((layS D 1 (filesS l)).1) 1 ((hdText (((max (S.g0) (S.g1)) + 1)) ((((filesS l).length : Nat) : Int))))).1).held) (D_held_k1807) :: grow 80 RWr h797 (((wrD ((layS D 1 (filesS l)).1) 1 ((hdText (((max (S.g0) (S.g1)) + 1)) ((((filesS l).length : Nat) : Int))))).1).pend) (D_pend_a1808) (D_pend_c1809) :: row (a705) [.int .i64 (((max (S.g0) (S.g1)) + 1)), .int .i64 ((((filesS l).length : Nat) : Int))] 57 :: row (w.heap.size) [.int .i64 (0)] 31 :: row (S_b) [.pointer (some ⟨D_b, 0, none⟩), .int .i64 (S.g0), .int .i64 (S.z0), .int .i64 (S.g1), .int .i64 (S.z1), .slice (S_files_a) (S.files).length (S_files_c)] 60 :: grow 29 RFile h797 (S.files) (S_files_a) (S_files_c) :: emp :: emp :: emp :: L) w812 := (((hS811.front (i := 6) rfl).front (i := 6) rfl).front (i := 6) rfl)
            refine S_callH (vs := [.pointer (some ⟨D_b, 0, none⟩)]) (A := fun hh_ => [row (D_b) [.bool (((wrD ((layS D 1 (filesS l)).1) 1 ((hdText (((max (S.g0) (S.g1)) + 1)) ((((filesS l).length : Nat) : Int))))).1).is), .int .i64 (((wrD ((layS D 1 (filesS l)).1) 1 ((hdText (((max (S.g0) (S.g1)) + 1)) ((((filesS l).length : Nat) : Int))))).1).left), .int .i64 (((wrD ((layS D 1 (filesS l)).1) 1 ((hdText (((max (S.g0) (S.g1)) + 1)) ((((filesS l).length : Nat) : Int))))).1).n), .map (some (D_held_b)), .slice (D_pend_a1808) (((wrD ((layS D 1 (filesS l)).1) 1 ((hdText (((max (S.g0) (S.g1)) + 1)) ((((filesS l).length : Nat) : Int))))).1).pend).length (D_pend_c1809)] 78, mpG Mwr (D_held_b) (((wrD ((layS D 1 (filesS l)).1) 1 ((hdText (((max (S.g0) (S.g1)) + 1)) ((((filesS l).length : Nat) : Int))))).1).held) (D_held_k1807), grow 80 RWr hh_ (((wrD ((layS D 1 (filesS l)).1) 1 ((hdText (((max (S.g0) (S.g1)) + 1)) ((((filesS l).length : Nat) : Int))))).1).pend) (D_pend_a1808) (D_pend_c1809)]) (L := row (a705) [.int .i64 (((max (S.g0) (S.g1)) + 1)), .int .i64 ((((filesS l).length : Nat) : Int))] 57 :: row (w.heap.size) [.int .i64 (0)] 31 :: row (S_b) [.pointer (some ⟨D_b, 0, none⟩), .int .i64 (S.g0), .int .i64 (S.z0), .int .i64 (S.g1), .int .i64 (S.z1), .slice (S_files_a) (S.files).length (S_files_c)] 60 :: grow 29 RFile h797 (S.files) (S_files_a) (S_files_c) :: emp :: emp :: emp :: L) hS828 Tryz.call32 rfl (disk_Sync ((wrD ((layS D 1 (filesS l)).1) 1 ((hdText (((max (S.g0) (S.g1)) + 1)) ((((filesS l).length : Nat) : Int))))).1) (D_b) (D_held_b) (D_held_k1807) (D_pend_a1808) (D_pend_c1809) (by first | assumption | omega | exact rightS_sz hr_ | (have := hlp_ 0; have := hlp_ 1; omega) | (dsimp only; omega) | (have := hlp_ 0; have := hlp_ 1; have q_ := wrD_pend (layS D 0 (filesS l)).1 0 (hdText (max S.g0 S.g1 + 1) ((filesS l).length : Nat)); have q2_ := wrD_pend (layS D 1 (filesS l)).1 1 (hdText (max S.g0 S.g1 + 1) ((filesS l).length : Nat)); omega))) trivial ?_
            intro A829 v830 w827 hp831 hS826
            obtain ⟨D_held_k1832, D_pend_a1833, D_pend_c1834, rfl, rfl⟩ := hp831
            have hS826 : St Γ h797 (row (D_b) [.bool (((syncD ((wrD ((layS D 1 (filesS l)).1) 1 ((hdText (((max (S.g0) (S.g1)) + 1)) ((((filesS l).length : Nat) : Int))))).1)).1).is), .int .i64 (((syncD ((wrD ((layS D 1 (filesS l)).1) 1 ((hdText (((max (S.g0) (S.g1)) + 1)) ((((filesS l).length : Nat) : Int))))).1)).1).left), .int .i64 (((syncD ((wrD ((layS D 1 (filesS l)).1) 1 ((hdText (((max (S.g0) (S.g1)) + 1)) ((((filesS l).length : Nat) : Int))))).1)).1).n), .map (some (D_held_b)), .slice (D_pend_a1833) (((syncD ((wrD ((layS D 1 (filesS l)).1) 1 ((hdText (((max (S.g0) (S.g1)) + 1)) ((((filesS l).length : Nat) : Int))))).1)).1).pend).length (D_pend_c1834)] 78 :: mpG Mwr (D_held_b) (((syncD ((wrD ((layS D 1 (filesS l)).1) 1 ((hdText (((max (S.g0) (S.g1)) + 1)) ((((filesS l).length : Nat) : Int))))).1)).1).held) (D_held_k1832) :: grow 80 RWr h797 (((syncD ((wrD ((layS D 1 (filesS l)).1) 1 ((hdText (((max (S.g0) (S.g1)) + 1)) ((((filesS l).length : Nat) : Int))))).1)).1).pend) (D_pend_a1833) (D_pend_c1834) :: row (a705) [.int .i64 (((max (S.g0) (S.g1)) + 1)), .int .i64 ((((filesS l).length : Nat) : Int))] 57 :: row (w.heap.size) [.int .i64 (0)] 31 :: row (S_b) [.pointer (some ⟨D_b, 0, none⟩), .int .i64 (S.g0), .int .i64 (S.z0), .int .i64 (S.g1), .int .i64 (S.z1), .slice (S_files_a) (S.files).length (S_files_c)] 60 :: grow 29 RFile h797 (S.files) (S_files_a) (S_files_c) :: emp :: emp :: emp :: L) w827 := hS826
            have hS835 : St Γ h797 (row (a705) [.int .i64 (((max (S.g0) (S.g1)) + 1)), .int .i64 ((((filesS l).length : Nat) : Int))] 57 :: row (w.heap.size) [.int .i64 (0)] 31 :: row (S_b) [.pointer (some ⟨D_b, 0, none⟩), .int .i64 (S.g0), .int .i64 (S.z0), .int .i64 (S.g1), .int .i64 (S.z1), .slice (S_files_a) (S.files).length (S_files_c)] 60 :: grow 29 RFile h797 (S.files) (S_files_a) (S_files_c) :: row (D_b) [.bool (((syncD ((wrD ((layS D 1 (filesS l)).1) 1 ((hdText (((max (S.g0) (S.g1)) + 1)) ((((filesS l).length : Nat) : Int))))).1)).1).is), .int .i64 (((syncD ((wrD ((layS D 1 (filesS l)).1) 1 ((hdText (((max (S.g0) (S.g1)) + 1)) ((((filesS l).length : Nat) : Int))))).1)).1).left), .int .i64 (((syncD ((wrD ((layS D 1 (filesS l)).1) 1 ((hdText (((max (S.g0) (S.g1)) + 1)) ((((filesS l).length : Nat) : Int))))).1)).1).n), .map (some (D_held_b)), .slice (D_pend_a1833) (((syncD ((wrD ((layS D 1 (filesS l)).1) 1 ((hdText (((max (S.g0) (S.g1)) + 1)) ((((filesS l).length : Nat) : Int))))).1)).1).pend).length (D_pend_c1834)] 78 :: mpG Mwr (D_held_b) (((syncD ((wrD ((layS D 1 (filesS l)).1) 1 ((hdText (((max (S.g0) (S.g1)) + 1)) ((((filesS l).length : Nat) : Int))))).1)).1).held) (D_held_k1832) :: grow 80 RWr h797 (((syncD ((wrD ((layS D 1 (filesS l)).1) 1 ((hdText (((max (S.g0) (S.g1)) + 1)) ((((filesS l).length : Nat) : Int))))).1)).1).pend) (D_pend_a1833) (D_pend_c1834) :: L) w827 := (St.back2 (i := 6) (St.back2 (i := 6) (St.back2 (i := 6) hS826 rfl) rfl) rfl)
            refine S_callX (vs := [.int .i64 ((syncD ((wrD ((layS D 1 (filesS l)).1) 1 ((hdText (((max (S.g0) (S.g1)) + 1)) ((((filesS l).length : Nat) : Int))))).1)).2)]) (A := fun hh_ => []) (L := row (a705) [.int .i64 (((max (S.g0) (S.g1)) + 1)), .int .i64 ((((filesS l).length : Nat) : Int))] 57 :: row (w.heap.size) [.int .i64 (0)] 31 :: row (S_b) [.pointer (some ⟨D_b, 0, none⟩), .int .i64 (S.g0), .int .i64 (S.z0), .int .i64 (S.g1), .int .i64 (S.z1), .slice (S_files_a) (S.files).length (S_files_c)] 60 :: grow 29 RFile h797 (S.files) (S_files_a) (S_files_c) :: row (D_b) [.bool (((syncD ((wrD ((layS D 1 (filesS l)).1) 1 ((hdText (((max (S.g0) (S.g1)) + 1)) ((((filesS l).length : Nat) : Int))))).1)).1).is), .int .i64 (((syncD ((wrD ((layS D 1 (filesS l)).1) 1 ((hdText (((max (S.g0) (S.g1)) + 1)) ((((filesS l).length : Nat) : Int))))).1)).1).left), .int .i64 (((syncD ((wrD ((layS D 1 (filesS l)).1) 1 ((hdText (((max (S.g0) (S.g1)) + 1)) ((((filesS l).length : Nat) : Int))))).1)).1).n), .map (some (D_held_b)), .slice (D_pend_a1833) (((syncD ((wrD ((layS D 1 (filesS l)).1) 1 ((hdText (((max (S.g0) (S.g1)) + 1)) ((((filesS l).length : Nat) : Int))))).1)).1).pend).length (D_pend_c1834)] 78 :: mpG Mwr (D_held_b) (((syncD ((wrD ((layS D 1 (filesS l)).1) 1 ((hdText (((max (S.g0) (S.g1)) + 1)) ((((filesS l).length : Nat) : Int))))).1)).1).held) (D_held_k1832) :: grow 80 RWr h797 (((syncD ((wrD ((layS D 1 (filesS l)).1) 1 ((hdText (((max (S.g0) (S.g1)) + 1)) ((((filesS l).length : Nat) : Int))))).1)).1).pend) (D_pend_a1833) (D_pend_c1834) :: L) hS835 Tryz.call29 rfl (store_must ((syncD ((wrD ((layS D 1 (filesS l)).1) 1 ((hdText (((max (S.g0) (S.g1)) + 1)) ((((filesS l).length : Nat) : Int))))).1)).2)) trivial ?_ ?_
            · intro A841 c842 w843 hp844 hS845
              obtain ⟨rfl, rfl, hf846⟩ := hp844
              have hS845 : St Γ h797 (row (a705) [.int .i64 (((max (S.g0) (S.g1)) + 1)), .int .i64 ((((filesS l).length : Nat) : Int))] 57 :: row (w.heap.size) [.int .i64 (0)] 31 :: row (S_b) [.pointer (some ⟨D_b, 0, none⟩), .int .i64 (S.g0), .int .i64 (S.z0), .int .i64 (S.g1), .int .i64 (S.z1), .slice (S_files_a) (S.files).length (S_files_c)] 60 :: grow 29 RFile h797 (S.files) (S_files_a) (S_files_c) :: row (D_b) [.bool (((syncD ((wrD ((layS D 1 (filesS l)).1) 1 ((hdText (((max (S.g0) (S.g1)) + 1)) ((((filesS l).length : Nat) : Int))))).1)).1).is), .int .i64 (((syncD ((wrD ((layS D 1 (filesS l)).1) 1 ((hdText (((max (S.g0) (S.g1)) + 1)) ((((filesS l).length : Nat) : Int))))).1)).1).left), .int .i64 (((syncD ((wrD ((layS D 1 (filesS l)).1) 1 ((hdText (((max (S.g0) (S.g1)) + 1)) ((((filesS l).length : Nat) : Int))))).1)).1).n), .map (some (D_held_b)), .slice (D_pend_a1833) (((syncD ((wrD ((layS D 1 (filesS l)).1) 1 ((hdText (((max (S.g0) (S.g1)) + 1)) ((((filesS l).length : Nat) : Int))))).1)).1).pend).length (D_pend_c1834)] 78 :: mpG Mwr (D_held_b) (((syncD ((wrD ((layS D 1 (filesS l)).1) 1 ((hdText (((max (S.g0) (S.g1)) + 1)) ((((filesS l).length : Nat) : Int))))).1)).1).held) (D_held_k1832) :: grow 80 RWr h797 (((syncD ((wrD ((layS D 1 (filesS l)).1) 1 ((hdText (((max (S.g0) (S.g1)) + 1)) ((((filesS l).length : Nat) : Int))))).1)).1).pend) (D_pend_a1833) (D_pend_c1834) :: L) w843 := hS845
              refine then_panic ?_
              refine topD_one (K := fun w_ => St Γ h797 (row (a705) [.int .i64 (((max (S.g0) (S.g1)) + 1)), .int .i64 ((((filesS l).length : Nat) : Int))] 57 :: row (w.heap.size) [.int .i64 (((syncD ((wrD ((layS D 1 (filesS l)).1) 1 ((hdText (((max (S.g0) (S.g1)) + 1)) ((((filesS l).length : Nat) : Int))))).1)).2))] 31 :: row (S_b) [.pointer (some ⟨D_b, 0, none⟩), .int .i64 (S.g0), .int .i64 (S.z0), .int .i64 (S.g1), .int .i64 (S.z1), .slice (S_files_a) (S.files).length (S_files_c)] 60 :: grow 29 RFile h797 (S.files) (S_files_a) (S_files_c) :: row (D_b) [.bool (((syncD ((wrD ((layS D 1 (filesS l)).1) 1 ((hdText (((max (S.g0) (S.g1)) + 1)) ((((filesS l).length : Nat) : Int))))).1)).1).is), .int .i64 (((syncD ((wrD ((layS D 1 (filesS l)).1) 1 ((hdText (((max (S.g0) (S.g1)) + 1)) ((((filesS l).length : Nat) : Int))))).1)).1).left), .int .i64 (((syncD ((wrD ((layS D 1 (filesS l)).1) 1 ((hdText (((max (S.g0) (S.g1)) + 1)) ((((filesS l).length : Nat) : Int))))).1)).1).n), .map (some (D_held_b)), .slice (D_pend_a1833) (((syncD ((wrD ((layS D 1 (filesS l)).1) 1 ((hdText (((max (S.g0) (S.g1)) + 1)) ((((filesS l).length : Nat) : Int))))).1)).1).pend).length (D_pend_c1834)] 78 :: mpG Mwr (D_held_b) (((syncD ((wrD ((layS D 1 (filesS l)).1) 1 ((hdText (((max (S.g0) (S.g1)) + 1)) ((((filesS l).length : Nat) : Int))))).1)).1).held) (D_held_k1832) :: grow 80 RWr h797 (((syncD ((wrD ((layS D 1 (filesS l)).1) 1 ((hdText (((max (S.g0) (S.g1)) + 1)) ((((filesS l).length : Nat) : Int))))).1)).1).pend) (D_pend_a1833) (D_pend_c1834) :: L) w_) (.inr ⟨_, rfl, rfl⟩) (fun w_ => invoke_func 26 _ Tryz.call26 w_) (CallsD.mono (rec_pan hS845 (i := 1) rfl) (fun _ _ _ q_ => ⟨q_.1, by rw [q_.2.1]; rfl, q_.2.2⟩)) ?_
              intro w847 hS848
              refine ⟨.int .i64 (((syncD ((wrD ((layS D 1 (filesS l)).1) 1 ((hdText (((max (S.g0) (S.g1)) + 1)) ((((filesS l).length : Nat) : Int))))).1)).2)), givesL1 (vs := [.int .i64 (((syncD ((wrD ((layS D 1 (filesS l)).1) 1 ((hdText (((max (S.g0) (S.g1)) + 1)) ((((filesS l).length : Nat) : Int))))).1)).2))]) rfl ⟨⟨w.heap.size, 0, rfl, loadVar1 (hS848.has (i := 1) rfl) (Tryz.isAgg31 _) rfl⟩, trivial⟩ rfl, ?_⟩
              have e_ := comS_sync hr_ c1 hat_ (by assumption) rfl (by assumption) rfl (by assumption)
              have hS849 : St Γ h797 (row (S_b) [.pointer (some ⟨D_b, 0, none⟩), .int .i64 (S.g0), .int .i64 (S.z0), .int .i64 (S.g1), .int .i64 (S.z1), .slice (S_files_a) (S.files).length (S_files_c)] 60 :: grow 29 RFile h797 (S.files) (S_files_a) (S_files_c) :: row (D_b) [.bool (((syncD ((wrD ((layS D 1 (filesS l)).1) 1 ((hdText (((max (S.g0) (S.g1)) + 1)) ((((filesS l).length : Nat) : Int))))).1)).1).is), .int .i64 (((syncD ((wrD ((layS D 1 (filesS l)).1) 1 ((hdText (((max (S.g0) (S.g1)) + 1)) ((((filesS l).length : Nat) : Int))))).1)).1).left), .int .i64 (((syncD ((wrD ((layS D 1 (filesS l)).1) 1 ((hdText (((max (S.g0) (S.g1)) + 1)) ((((filesS l).length : Nat) : Int))))).1)).1).n), .map (some (D_held_b)), .slice (D_pend_a1833) (((syncD ((wrD ((layS D 1 (filesS l)).1) 1 ((hdText (((max (S.g0) (S.g1)) + 1)) ((((filesS l).length : Nat) : Int))))).1)).1).pend).length (D_pend_c1834)] 78 :: mpG Mwr (D_held_b) (((syncD ((wrD ((layS D 1 (filesS l)).1) 1 ((hdText (((max (S.g0) (S.g1)) + 1)) ((((filesS l).length : Nat) : Int))))).1)).1).held) (D_held_k1832) :: grow 80 RWr h797 (((syncD ((wrD ((layS D 1 (filesS l)).1) 1 ((hdText (((max (S.g0) (S.g1)) + 1)) ((((filesS l).length : Nat) : Int))))).1)).1).pend) (D_pend_a1833) (D_pend_c1834) :: L) w847 := (((((((hS848.move (i := 6) rfl).move (i := 6) rfl).move (i := 6) rfl).move (i := 6) rfl).move (i := 6) rfl).remove 6).remove 5)
              exact ⟨[row (S_b) [.pointer (some ⟨D_b, 0, none⟩), .int .i64 (S.g0), .int .i64 (S.z0), .int .i64 (S.g1), .int .i64 (S.z1), .slice (S_files_a) (S.files).length (S_files_c)] 60, grow 29 RFile h (S.files) (S_files_a) (S_files_c), row (D_b) [.bool (((syncD ((wrD ((layS D 1 (filesS l)).1) 1 ((hdText (((max (S.g0) (S.g1)) + 1)) ((((filesS l).length : Nat) : Int))))).1)).1).is), .int .i64 (((syncD ((wrD ((layS D 1 (filesS l)).1) 1 ((hdText (((max (S.g0) (S.g1)) + 1)) ((((filesS l).length : Nat) : Int))))).1)).1).left), .int .i64 (((syncD ((wrD ((layS D 1 (filesS l)).1) 1 ((hdText (((max (S.g0) (S.g1)) + 1)) ((((filesS l).length : Nat) : Int))))).1)).1).n), .map (some (D_held_b)), .slice (D_pend_a1833) (((syncD ((wrD ((layS D 1 (filesS l)).1) 1 ((hdText (((max (S.g0) (S.g1)) + 1)) ((((filesS l).length : Nat) : Int))))).1)).1).pend).length (D_pend_c1834)] 78, mpG Mwr (D_held_b) (((syncD ((wrD ((layS D 1 (filesS l)).1) 1 ((hdText (((max (S.g0) (S.g1)) + 1)) ((((filesS l).length : Nat) : Int))))).1)).1).held) (D_held_k1832), grow 80 RWr h (((syncD ((wrD ((layS D 1 (filesS l)).1) 1 ((hdText (((max (S.g0) (S.g1)) + 1)) ((((filesS l).length : Nat) : Int))))).1)).1).pend) (D_pend_a1833) (D_pend_c1834)], ⟨S_files_a, S_files_c, D_held_k1832, D_pend_a1833, D_pend_c1834, (by first | rfl | (rw [e_]; done) | (rw [e_]; rfl)), (by first | rfl | (rw [e_]; done) | (rw [e_]; rfl))⟩, (((hS849.growFree (i := 1) h RFile_free rfl).growFree (i := 4) h RWr_free rfl).weaken_h (hl704.trans hl798))⟩
            intro A838 v839 w837 hp840 hS836
            obtain ⟨rfl, rfl, hf850⟩ := hp840
            have hS836 : St Γ h797 (row (a705) [.int .i64 (((max (S.g0) (S.g1)) + 1)), .int .i64 ((((filesS l).length : Nat) : Int))] 57 :: row (w.heap.size) [.int .i64 (0)] 31 :: row (S_b) [.pointer (some ⟨D_b, 0, none⟩), .int .i64 (S.g0), .int .i64 (S.z0), .int .i64 (S.g1), .int .i64 (S.z1), .slice (S_files_a) (S.files).length (S_files_c)] 60 :: grow 29 RFile h797 (S.files) (S_files_a) (S_files_c) :: row (D_b) [.bool (((syncD ((wrD ((layS D 1 (filesS l)).1) 1 ((hdText (((max (S.g0) (S.g1)) + 1)) ((((filesS l).length : Nat) : Int))))).1)).1).is), .int .i64 (((syncD ((wrD ((layS D 1 (filesS l)).1) 1 ((hdText (((max (S.g0) (S.g1)) + 1)) ((((filesS l).length : Nat) : Int))))).1)).1).left), .int .i64 (((syncD ((wrD ((layS D 1 (filesS l)).1) 1 ((hdText (((max (S.g0) (S.g1)) + 1)) ((((filesS l).length : Nat) : Int))))).1)).1).n), .map (some (D_held_b)), .slice (D_pend_a1833) (((syncD ((wrD ((layS D 1 (filesS l)).1) 1 ((hdText (((max (S.g0) (S.g1)) + 1)) ((((filesS l).length : Nat) : Int))))).1)).1).pend).length (D_pend_c1834)] 78 :: mpG Mwr (D_held_b) (((syncD ((wrD ((layS D 1 (filesS l)).1) 1 ((hdText (((max (S.g0) (S.g1)) + 1)) ((((filesS l).length : Nat) : Int))))).1)).1).held) (D_held_k1832) :: grow 80 RWr h797 (((syncD ((wrD ((layS D 1 (filesS l)).1) 1 ((hdText (((max (S.g0) (S.g1)) + 1)) ((((filesS l).length : Nat) : Int))))).1)).1).pend) (D_pend_a1833) (D_pend_c1834) :: L) w837 := hS836
            refine WL.nil ?_
            refine then_normal ?_
            refine WCX.seq ?_
            refine WCX.of ?_
            refine WC.draw 5 [(0, .pointer (some ⟨S_b, 0, none⟩)), (1, .slice (l_a) (l).length (l_c)), (4, .pointer (some ⟨w.heap.size, 0, none⟩)), (6, .int .i64 (1)), (7, .pointer (some ⟨a705, 0, none⟩))] [fun _ v => v = .pointer (some ⟨S_b, 0, none⟩), fun _ v => v = .int .i64 (1), fun _ v => v = .agg #[.int .i64 (((max (S.g0) (S.g1)) + 1)), .int .i64 ((((filesS l).length : Nat) : Int))], fun _ v => v = .pointer (some ⟨S_b, 0, none⟩), fun _ v => v = .pointer (some ⟨S_b, 1, none⟩)] hS836 (by kernel_rfl) (by kernel_rfl) (MonoFs.pure (MonoFs.pure (MonoFs.pure (MonoFs.pure (MonoFs.pure MonoFs.nil))))) ⟨rfl, rfl, rfl, rfl, rfl, trivial⟩ ⟨?_, ?_, ?_, ?_, ?_, trivial⟩ ?_
            · intro r_ w872 h873 hl874 hS871 hb_ hp_
              obtain ⟨b0_, b1_, b2_, b3_, b4_, _⟩ := hb_
              refine WL.val1 (R_move (v := .pointer (some ⟨S_b, 0, none⟩)) b0_) ?_
              refine WL.nil ?_
              exact ⟨rfl, _, _, rfl, (Hp.le_refl _), rfl, hS871⟩
            · intro r_ w876 h877 hl878 hS875 hb_ hp_
              obtain ⟨b0_, b1_, b2_, b3_, b4_, _⟩ := hb_
              refine WL.val1 (R_move (v := .int .i64 (1)) b3_) ?_
              refine WL.nil ?_
              exact ⟨rfl, _, _, rfl, (Hp.le_refl _), rfl, hS875⟩
            · intro r_ w880 h881 hl882 hS879 hb_ hp_
              obtain ⟨b0_, b1_, b2_, b3_, b4_, _⟩ := hb_
              refine WL.val1 (R_loadA (cs := [.int .i64 (((max (S.g0) (S.g1)) + 1)), .int .i64 ((((filesS l).length : Nat) : Int))]) b4_ (hS879.has (i := 0) rfl) (Tryz.isAgg57 _) (Tryz.sizeOf57 _) rfl (sub_cells rfl)) ?_
              refine WL.nil ?_
              exact ⟨rfl, _, _, rfl, (Hp.le_refl _), rfl, hS879⟩
            · intro r_ w884 h885 hl886 hS883 hb_ hp_
              obtain ⟨b0_, b1_, b2_, b3_, b4_, _⟩ := hb_
              obtain ⟨p0_, _⟩ := hp_
              have p0_ : r_ 62 = .pointer (some ⟨S_b, 0, none⟩) := p0_
              refine WL.val1 (R_nilCheck p0_) ?_
              refine WL.nil ?_
              exact ⟨rfl, _, _, rfl, (Hp.le_refl _), rfl, hS883⟩
            · intro r_ w888 h889 hl890 hS887 hb_ hp_
              obtain ⟨b0_, b1_, b2_, b3_, b4_, _⟩ := hb_
              obtain ⟨p0_, _⟩ := hp_
              have p0_ : r_ 65 = .pointer (some ⟨S_b, 0, none⟩) := p0_
              refine WL.val1 (R_fieldAddr (b := S_b) (off := 0) (m := 1) p0_ (fun _ => by kernel_rfl)) ?_
              refine WL.nil ?_
              exact ⟨rfl, _, _, rfl, (Hp.le_refl _), rfl, hS887⟩
            · intro r_ w892 h893 hl894 hS891 hb_ hf_
              obtain ⟨b0_, b1_, b2_, b3_, b4_, _⟩ := hb_
              have q1_ := AF.get hf_ 1 (d := 63) rfl rfl
              have q2_ := AF.get hf_ 2 (d := 64) rfl rfl
              have q4_ := AF.get hf_ 4 (d := 66) rfl rfl
              refine WL.frame [(0, .pointer (some ⟨S_b, 0, none⟩)), (1, .slice (l_a) (l).length (l_c)), (4, .pointer (some ⟨w.heap.size, 0, none⟩)), (6, .int .i64 (1)), (7, .pointer (some ⟨a705, 0, none⟩)), (63, .int .i64 (1)), (64, .agg #[.int .i64 (((max (S.g0) (S.g1)) + 1)), .int .i64 ((((filesS l).length : Nat) : Int))]), (66, .pointer (some ⟨S_b, 1, none⟩))] ⟨b0_, b1_, b2_, b3_, b4_, q1_, q2_, q4_, trivial⟩ (fun r_ => ?_)
              refine WL.val1 (R_indexArr (b := S_b) (o := 1) (i := 1) (m := 1) rfl rfl Tryz.underlying58 (Tryz.sizeOf57 _) rfl (by decide)) ?_
              refine S_store (i := 2) (b := S_b) (l := [.pointer (some ⟨D_b, 0, none⟩), .int .i64 (S.g0), .int .i64 (S.z0), .int .i64 (S.g1), .int .i64 (S.z1), .slice (S_files_a) (S.files).length (S_files_c)]) (l' := [.pointer (some ⟨D_b, 0, none⟩), .int .i64 (S.g0), .int .i64 (S.z0), .int .i64 (((max (S.g0) (S.g1)) + 1)), .int .i64 ((((filesS l).length : Nat) : Int)), .slice (S_files_a) (S.files).length (S_files_c)]) (vs := [.int .i64 (((max (S.g0) (S.g1)) + 1)), .int .i64 ((((filesS l).length : Nat) : Int))]) (v := .agg #[.int .i64 (((max (S.g0) (S.g1)) + 1)), .int .i64 ((((filesS l).length : Nat) : Int))]) hS891 rfl rfl rfl Tryz.sizeOf57 rfl rfl rfl (Nat.le_of_ble_eq_true rfl) rfl rfl ?_
              intro w896 hS895
              refine WL.nil ?_
              refine then_normal ?_
              refine WCX.seq ?_
              refine WCX.of ?_
              refine WC.region ?_
              refine WL.val1 (R_move (v := .pointer (some ⟨S_b, 0, none⟩)) rfl) ?_
              refine WL.val1 (R_move (v := .slice (l_a) (l).length (l_c)) rfl) ?_
              have hS899 := hS895.growMono (i := 3) rfl hl894
              have hS900 := hS899.growMono (i := 6) rfl hl894
              refine S_callH (vs := [.slice (l_a) (l).length (l_c)]) (A := fun hh_ => []) (L := row (a705) [.int .i64 (((max (S.g0) (S.g1)) + 1)), .int .i64 ((((filesS l).length : Nat) : Int))] 57 :: row (w.heap.size) [.int .i64 (0)] 31 :: row (S_b) [.pointer (some ⟨D_b, 0, none⟩), .int .i64 (S.g0), .int .i64 (S.z0), .int .i64 (((max (S.g0) (S.g1)) + 1)), .int .i64 ((((filesS l).length : Nat) : Int)), .slice (S_files_a) (S.files).length (S_files_c)] 60 :: grow 29 RFile h893 (S.files) (S_files_a) (S_files_c) :: row (D_b) [.bool (((syncD ((wrD ((layS D 1 (filesS l)).1) 1 ((hdText (((max (S.g0) (S.g1)) + 1)) ((((filesS l).length : Nat) : Int))))).1)).1).is), .int .i64 (((syncD ((wrD ((layS D 1 (filesS l)).1) 1 ((hdText (((max (S.g0) (S.g1)) + 1)) ((((filesS l).length : Nat) : Int))))).1)).1).left), .int .i64 (((syncD ((wrD ((layS D 1 (filesS l)).1) 1 ((hdText (((max (S.g0) (S.g1)) + 1)) ((((filesS l).length : Nat) : Int))))).1)).1).n), .map (some (D_held_b)), .slice (D_pend_a1833) (((syncD ((wrD ((layS D 1 (filesS l)).1) 1 ((hdText (((max (S.g0) (S.g1)) + 1)) ((((filesS l).length : Nat) : Int))))).1)).1).pend).length (D_pend_c1834)] 78 :: mpG Mwr (D_held_b) (((syncD ((wrD ((layS D 1 (filesS l)).1) 1 ((hdText (((max (S.g0) (S.g1)) + 1)) ((((filesS l).length : Nat) : Int))))).1)).1).held) (D_held_k1832) :: grow 80 RWr h893 (((syncD ((wrD ((layS D 1 (filesS l)).1) 1 ((hdText (((max (S.g0) (S.g1)) + 1)) ((((filesS l).length : Nat) : Int))))).1)).1).pend) (D_pend_a1833) (D_pend_c1834) :: L) hS900 Tryz.call33 rfl (lib_Clone (l) (l_a) (l_c) (by first | assumption | omega | exact rightS_sz hr_ | (have := hlp_ 0; have := hlp_ 1; omega) | (dsimp only; omega) | (have := hlp_ 0; have := hlp_ 1; have q_ := wrD_pend (layS D 0 (filesS l)).1 0 (hdText (max S.g0 S.g1 + 1) ((filesS l).length : Nat)); have q2_ := wrD_pend (layS D 1 (filesS l)).1 1 (hdText (max S.g0 S.g1 + 1) ((filesS l).length : Nat)); omega))) (sl_l.mono ((hl704.trans hl798).trans hl894)) ?_
              intro A901 v902 w898 hp903 hS897
              obtain ⟨r_a904, r_c905, rfl, rfl⟩ := hp903
              have hS897 : St Γ h893 (grow 29 RFile h893 (l) (r_a904) (r_c905) :: row (a705) [.int .i64 (((max (S.g0) (S.g1)) + 1)), .int .i64 ((((filesS l).length : Nat) : Int))] 57 :: row (w.heap.size) [.int .i64 (0)] 31 :: row (S_b) [.pointer (some ⟨D_b, 0, none⟩), .int .i64 (S.g0), .int .i64 (S.z0), .int .i64 (((max (S.g0) (S.g1)) + 1)), .int .i64 ((((filesS l).length : Nat) : Int)), .slice (S_files_a) (S.files).length (S_files_c)] 60 :: grow 29 RFile h893 (S.files) (S_files_a) (S_files_c) :: row (D_b) [.bool (((syncD ((wrD ((layS D 1 (filesS l)).1) 1 ((hdText (((max (S.g0) (S.g1)) + 1)) ((((filesS l).length : Nat) : Int))))).1)).1).is), .int .i64 (((syncD ((wrD ((layS D 1 (filesS l)).1) 1 ((hdText (((max (S.g0) (S.g1)) + 1)) ((((filesS l).length : Nat) : Int))))).1)).1).left), .int .i64 (((syncD ((wrD ((layS D 1 (filesS l)).1) 1 ((hdText (((max (S.g0) (S.g1)) + 1)) ((((filesS l).length : Nat) : Int))))).1)).1).n), .map (some (D_held_b)), .slice (D_pend_a1833) (((syncD ((wrD ((layS D 1 (filesS l)).1) 1 ((hdText (((max (S.g0) (S.g1)) + 1)) ((((filesS l).length : Nat) : Int))))).1)).1).pend).length (D_pend_c1834)] 78 :: mpG Mwr (D_held_b) (((syncD ((wrD ((layS D 1 (filesS l)).1) 1 ((hdText (((max (S.g0) (S.g1)) + 1)) ((((filesS l).length : Nat) : Int))))).1)).1).held) (D_held_k1832) :: grow 80 RWr h893 (((syncD ((wrD ((layS D 1 (filesS l)).1) 1 ((hdText (((max (S.g0) (S.g1)) + 1)) ((((filesS l).length : Nat) : Int))))).1)).1).pend) (D_pend_a1833) (D_pend_c1834) :: L) w898 := hS897
              refine WL.val1 (R_nilCheck rfl) ?_
              refine WL.val1 (R_fieldAddr (b := S_b) (off := 0) (m := 5) rfl (fun _ => by kernel_rfl)) ?_
              refine S_store (i := 3) (b := S_b) (l := [.pointer (some ⟨D_b, 0, none⟩), .int .i64 (S.g0), .int .i64 (S.z0), .int .i64 (((max (S.g0) (S.g1)) + 1)), .int .i64 ((((filesS l).length : Nat) : Int)), .slice (S_files_a) (S.files).length (S_files_c)]) (l' := [.pointer (some ⟨D_b, 0, none⟩), .int .i64 (S.g0), .int .i64 (S.z0), .int .i64 (((max (S.g0) (S.g1)) + 1)), .int .i64 ((((filesS l).length : Nat) : Int)), .slice (r_a904) (l).length (r_c905)]) (vs := [.slice (r_a904) (l).length (r_c905)]) (v := .slice (r_a904) (l).length (r_c905)) hS897 rfl rfl rfl Tryz.sizeOf30 rfl rfl rfl (Nat.le_of_ble_eq_true rfl) rfl rfl ?_
              intro w907 hS906
              refine WL.nil ?_
              refine then_normal ?_
              refine WCX.seq ?_
              refine WCX.of ?_
              refine WC.region ?_
              refine S_store (i := 2) (b := w.heap.size) (l := [.int .i64 (0)]) (l' := [.int .i64 (0)]) (vs := [.int .i64 (0)]) (v := .int .i64 (0)) hS906 rfl rfl rfl Tryz.sizeOf31 rfl rfl rfl (Nat.le_of_ble_eq_true rfl) rfl rfl ?_
              intro w909 hS908
              refine WL.nil ?_
              refine then_normal ?_
              refine WCX.of ?_
              refine WC.ret ?_
              refine topD_one (K := fun w_ => St Γ h893 (grow 29 RFile h893 (l) (r_a904) (r_c905) :: row (a705) [.int .i64 (((max (S.g0) (S.g1)) + 1)), .int .i64 ((((filesS l).length : Nat) : Int))] 57 :: row (w.heap.size) [.int .i64 (0)] 31 :: row (S_b) [.pointer (some ⟨D_b, 0, none⟩), .int .i64 (S.g0), .int .i64 (S.z0), .int .i64 (((max (S.g0) (S.g1)) + 1)), .int .i64 ((((filesS l).length : Nat) : Int)), .slice (r_a904) (l).length (r_c905)] 60 :: grow 29 RFile h893 (S.files) (S_files_a) (S_files_c) :: row (D_b) [.bool (((syncD ((wrD ((layS D 1 (filesS l)).1) 1 ((hdText (((max (S.g0) (S.g1)) + 1)) ((((filesS l).length : Nat) : Int))))).1)).1).is), .int .i64 (((syncD ((wrD ((layS D 1 (filesS l)).1) 1 ((hdText (((max (S.g0) (S.g1)) + 1)) ((((filesS l).length : Nat) : Int))))).1)).1).left), .int .i64 (((syncD ((wrD ((layS D 1 (filesS l)).1) 1 ((hdText (((max (S.g0) (S.g1)) + 1)) ((((filesS l).length : Nat) : Int))))).1)).1).n), .map (some (D_held_b)), .slice (D_pend_a1833) (((syncD ((wrD ((layS D 1 (filesS l)).1) 1 ((hdText (((max (S.g0) (S.g1)) + 1)) ((((filesS l).length : Nat) : Int))))).1)).1).pend).length (D_pend_c1834)] 78 :: mpG Mwr (D_held_b) (((syncD ((wrD ((layS D 1 (filesS l)).1) 1 ((hdText (((max (S.g0) (S.g1)) + 1)) ((((filesS l).length : Nat) : Int))))).1)).1).held) (D_held_k1832) :: grow 80 RWr h893 (((syncD ((wrD ((layS D 1 (filesS l)).1) 1 ((hdText (((max (S.g0) (S.g1)) + 1)) ((((filesS l).length : Nat) : Int))))).1)).1).pend) (D_pend_a1833) (D_pend_c1834) :: L) w_) (.inl ⟨.inl rfl, rfl⟩) (fun w_ => invoke_func 26 _ Tryz.call26 w_) (CallsD.mono (rec_ret hS908 (i := 2) rfl) (fun _ _ _ q_ => ⟨q_.1, by rw [q_.2.1]; rfl, q_.2.2⟩)) ?_
              intro w910 hS911
              refine ⟨.int .i64 (0), givesL1 (vs := [.int .i64 (0)]) rfl ⟨⟨w.heap.size, 0, rfl, loadVar1 (hS911.has (i := 2) rfl) (Tryz.isAgg31 _) rfl⟩, trivial⟩ rfl, ?_⟩
              have e_ := comS_ok hr_ c1 hat_ (by assumption) rfl (by assumption) rfl (by assumption)
              have hS912 : St Γ h893 (row (S_b) [.pointer (some ⟨D_b, 0, none⟩), .int .i64 (S.g0), .int .i64 (S.z0), .int .i64 (((max (S.g0) (S.g1)) + 1)), .int .i64 ((((filesS l).length : Nat) : Int)), .slice (r_a904) (l).length (r_c905)] 60 :: grow 29 RFile h893 (l) (r_a904) (r_c905) :: row (D_b) [.bool (((syncD ((wrD ((layS D 1 (filesS l)).1) 1 ((hdText (((max (S.g0) (S.g1)) + 1)) ((((filesS l).length : Nat) : Int))))).1)).1).is), .int .i64 (((syncD ((wrD ((layS D 1 (filesS l)).1) 1 ((hdText (((max (S.g0) (S.g1)) + 1)) ((((filesS l).length : Nat) : Int))))).1)).1).left), .int .i64 (((syncD ((wrD ((layS D 1 (filesS l)).1) 1 ((hdText (((max (S.g0) (S.g1)) + 1)) ((((filesS l).length : Nat) : Int))))).1)).1).n), .map (some (D_held_b)), .slice (D_pend_a1833) (((syncD ((wrD ((layS D 1 (filesS l)).1) 1 ((hdText (((max (S.g0) (S.g1)) + 1)) ((((filesS l).length : Nat) : Int))))).1)).1).pend).length (D_pend_c1834)] 78 :: mpG Mwr (D_held_b) (((syncD ((wrD ((layS D 1 (filesS l)).1) 1 ((hdText (((max (S.g0) (S.g1)) + 1)) ((((filesS l).length : Nat) : Int))))).1)).1).held) (D_held_k1832) :: grow 80 RWr h893 (((syncD ((wrD ((layS D 1 (filesS l)).1) 1 ((hdText (((max (S.g0) (S.g1)) + 1)) ((((filesS l).length : Nat) : Int))))).1)).1).pend) (D_pend_a1833) (D_pend_c1834) :: L) w910 := ((((((((hS911.move (i := 7) rfl).move (i := 7) rfl).move (i := 7) rfl).move (i := 3) rfl).move (i := 6) rfl).remove 7).remove 6).remove 5)
              exact ⟨[row (S_b) [.pointer (some ⟨D_b, 0, none⟩), .int .i64 (S.g0), .int .i64 (S.z0), .int .i64 (((max (S.g0) (S.g1)) + 1)), .int .i64 ((((filesS l).length : Nat) : Int)), .slice (r_a904) (l).length (r_c905)] 60, grow 29 RFile h (l) (r_a904) (r_c905), row (D_b) [.bool (((syncD ((wrD ((layS D 1 (filesS l)).1) 1 ((hdText (((max (S.g0) (S.g1)) + 1)) ((((filesS l).length : Nat) : Int))))).1)).1).is), .int .i64 (((syncD ((wrD ((layS D 1 (filesS l)).1) 1 ((hdText (((max (S.g0) (S.g1)) + 1)) ((((filesS l).length : Nat) : Int))))).1)).1).left), .int .i64 (((syncD ((wrD ((layS D 1 (filesS l)).1) 1 ((hdText (((max (S.g0) (S.g1)) + 1)) ((((filesS l).length : Nat) : Int))))).1)).1).n), .map (some (D_held_b)), .slice (D_pend_a1833) (((syncD ((wrD ((layS D 1 (filesS l)).1) 1 ((hdText (((max (S.g0) (S.g1)) + 1)) ((((filesS l).length : Nat) : Int))))).1)).1).pend).length (D_pend_c1834)] 78, mpG Mwr (D_held_b) (((syncD ((wrD ((layS D 1 (filesS l)).1) 1 ((hdText (((max (S.g0) (S.g1)) + 1)) ((((filesS l).length : Nat) : Int))))).1)).1).held) (D_held_k1832), grow 80 RWr h (((syncD ((wrD ((layS D 1 (filesS l)).1) 1 ((hdText (((max (S.g0) (S.g1)) + 1)) ((((filesS l).length : Nat) : Int))))).1)).1).pend) (D_pend_a1833) (D_pend_c1834)], ⟨r_a904, r_c905, D_held_k1832, D_pend_a1833, D_pend_c1834, (by first | rfl | (rw [e_]; done) | (rw [e_]; rfl)), (by first | rfl | (rw [e_]; done) | (rw [e_]; rfl))⟩, (((hS912.growFree (i := 1) h RFile_free rfl).growFree (i := 4) h RWr_free rfl).weaken_h ((hl704.trans hl798).trans hl894))⟩
end Go.Stet
