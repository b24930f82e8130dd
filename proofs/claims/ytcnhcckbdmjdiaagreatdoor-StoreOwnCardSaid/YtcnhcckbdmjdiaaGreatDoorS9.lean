/- What the layers compute, in plain Lean, and laws about that. Each under the conditions that its own statement names. -/
import Derived.Test.YtcnhcckbdmjdiaaGreatDoorSeatS3
import Derived.Test.YtcnhcckbdmjdiaaGreatDoorBldS
import Derived.Test.YtcnhcckbdmjdiaaGreatDoorEng18
import Derived.Test.YtcnhcckbdmjdiaaGreatDoorSpecS1
import Derived.Test.YtcnhcckbdmjdiaaGreatDoorSRead
import Derived.Test.YtcnhcckbdmjdiaaGreatDoorS8
set_option linter.all false
set_option linter.unusedSimpArgs false
set_option linter.unusedVariables false
namespace Go.Stet
open Go Go.Eng Go.Proofs
set_option maxHeartbeats 400000 in
theorem disk_Read (D : Dsk) (D_b : Nat) (D_held_b D_held_k : Nat) (D_pend_a : Option Addr) (D_pend_c : Nat) (i : Int) (hp : D.pend = []) : MutH GG Tryz.prog 38 (fun _ => True) [.pointer (some ⟨D_b, 0, none⟩), .int .i64 (i)] (fun h => [row (D_b) [.bool (D.is), .int .i64 (D.left), .int .i64 (D.n), .map (some (D_held_b)), .slice (D_pend_a) (D.pend).length (D_pend_c)] 78, mpG Mwr (D_held_b) (D.held) (D_held_k), grow 80 RWr h (D.pend) (D_pend_a) (D_pend_c)]) (fun h A v => v = .tuple #[.string (B ((readD D i).1)), .int .i64 ((readD D i).2)] ∧ A = [row (D_b) [.bool (D.is), .int .i64 (D.left), .int .i64 (D.n), .map (some (D_held_b)), .slice (D_pend_a) (D.pend).length (D_pend_c)] 78, mpG Mwr (D_held_b) (D.held) (D_held_k), grow 80 RWr h (D.pend) (D_pend_a) (D_pend_c)]) := by
  intro Γ h L w hpre hS
  refine Ret.bodyM Tryz.func38 rfl Tryz.ntmps38 (Nat.le_of_ble_eq_true rfl) ?_
  have hS : St Γ h (row (D_b) [.bool (D.is), .int .i64 (D.left), .int .i64 (D.n), .map (some (D_held_b)), .slice (D_pend_a) (D.pend).length (D_pend_c)] 78 :: mpG Mwr (D_held_b) (D.held) (D_held_k) :: grow 80 RWr h (D.pend) (D_pend_a) (D_pend_c) :: L) w := hS
  refine WCX.seq ?_
  refine WCX.of ?_
  refine WC.region ?_
  refine S_box (l := [.int .i64 (i)]) (v := .int .i64 (i)) hS rfl rfl ?_
  intro w2 hS1
  refine S_alloc hS1 Tryz.zeroValue9 ?_
  intro w4 hS3
  refine S_alloc hS3 Tryz.zeroValue31 ?_
  intro w6 hS5
  refine WL.nil ?_
  refine then_normal ?_
  refine WCX.seq ?_
  refine WCX.seq ?_
  refine WCX.of ?_
  refine WC.region ?_
  refine WL.val1 (R_move (v := .pointer (some ⟨D_b, 0, none⟩)) rfl) ?_
  refine WL.val1 (R_load (v := .int .i64 (i)) rfl (hS5.has (i := 2) rfl) (Tryz.isAgg3 _) rfl) ?_
  have hS9 : St Γ h (row (D_b) [.bool (D.is), .int .i64 (D.left), .int .i64 (D.n), .map (some (D_held_b)), .slice (D_pend_a) (D.pend).length (D_pend_c)] 78 :: mpG Mwr (D_held_b) (D.held) (D_held_k) :: grow 80 RWr h (D.pend) (D_pend_a) (D_pend_c) :: row (w4.heap.size) [.int .i64 (0)] 31 :: row (w2.heap.size) [.string (B (([] : Str)))] 9 :: row (w.heap.size) [.int .i64 (i)] 3 :: emp :: emp :: emp :: L) w6 := (((hS5.front (i := 5) rfl).front (i := 5) rfl).front (i := 5) rfl)
  refine S_callH (vs := [.pointer (some ⟨D_b, 0, none⟩), .int .i64 (i)]) (A := fun hh_ => [row (D_b) [.bool (D.is), .int .i64 (D.left), .int .i64 (D.n), .map (some (D_held_b)), .slice (D_pend_a) (D.pend).length (D_pend_c)] 78, mpG Mwr (D_held_b) (D.held) (D_held_k), grow 80 RWr hh_ (D.pend) (D_pend_a) (D_pend_c)]) (L := row (w4.heap.size) [.int .i64 (0)] 31 :: row (w2.heap.size) [.string (B (([] : Str)))] 9 :: row (w.heap.size) [.int .i64 (i)] 3 :: emp :: emp :: emp :: L) hS9 Tryz.call47 rfl (disk_has (D) (D_b) (D_held_b) (D_held_k) (D_pend_a) (D_pend_c) (i)) trivial ?_
  intro A10 v11 w8 hp12 hS7
  obtain ⟨rfl, rfl⟩ := hp12
  have hS7 : St Γ h (row (D_b) [.bool (D.is), .int .i64 (D.left), .int .i64 (D.n), .map (some (D_held_b)), .slice (D_pend_a) (D.pend).length (D_pend_c)] 78 :: mpG Mwr (D_held_b) (D.held) (D_held_k) :: grow 80 RWr h (D.pend) (D_pend_a) (D_pend_c) :: row (w4.heap.size) [.int .i64 (0)] 31 :: row (w2.heap.size) [.string (B (([] : Str)))] 9 :: row (w.heap.size) [.int .i64 (i)] 3 :: emp :: emp :: emp :: L) w8 := hS7
  have hS13 : St Γ h (row (w4.heap.size) [.int .i64 (0)] 31 :: row (w2.heap.size) [.string (B (([] : Str)))] 9 :: row (w.heap.size) [.int .i64 (i)] 3 :: row (D_b) [.bool (D.is), .int .i64 (D.left), .int .i64 (D.n), .map (some (D_held_b)), .slice (D_pend_a) (D.pend).length (D_pend_c)] 78 :: mpG Mwr (D_held_b) (D.held) (D_held_k) :: grow 80 RWr h (D.pend) (D_pend_a) (D_pend_c) :: L) w8 := (St.back2 (i := 5) (St.back2 (i := 5) (St.back2 (i := 5) hS7 rfl) rfl) rfl)
  refine WL.val1 (R_not (b := hasD D i) rfl) ?_
  refine WL.nil ?_
  refine then_normal ?_
  refine WCX.of ?_
  refine WC.condI (¬ ((hasD D i) = true)) (b := (!(hasD D i))) rfl (b_not Iff.rfl) (fun c0 => ?_) (fun c0 => ?_)
  · skip
    refine WC.seq ?_
    refine WC.region ?_
    refine S_store (i := 1) (b := w2.heap.size) (l := [.string (B (([] : Str)))]) (l' := [.string (B (([] : Str)))]) (vs := [.string (B (([] : Str)))]) (v := .string (B (([] : Str)))) hS13 rfl rfl rfl Tryz.sizeOf9 rfl rfl rfl (Nat.le_of_ble_eq_true rfl) rfl rfl ?_
    intro w15 hS14
    refine S_store (i := 0) (b := w4.heap.size) (l := [.int .i64 (0)]) (l' := [.int .i64 (1)]) (vs := [.int .i64 (1)]) (v := .int .i64 (1)) hS14 rfl rfl rfl Tryz.sizeOf31 rfl rfl rfl (Nat.le_of_ble_eq_true rfl) rfl rfl ?_
    intro w17 hS16
    refine WL.nil ?_
    refine then_normal ?_
    refine WC.ret ?_
    refine then_ret ?_
    refine topM_ret (.tuple #[.string (B (([] : Str))), .int .i64 (1)]) (givesL2 (vs := [.string (B (([] : Str))), .int .i64 (1)]) rfl ⟨⟨w2.heap.size, 0, rfl, loadVar1 (hS16.has (i := 1) rfl) (Tryz.isAgg9 _) rfl⟩, ⟨w4.heap.size, 0, rfl, loadVar1 (hS16.has (i := 0) rfl) (Tryz.isAgg31 _) rfl⟩, trivial⟩ rfl) ?_
    have e_ : readD D i = ([], 1) := by unfold readD; rw [if_pos (by simpa using c0)]
    have hS18 : St Γ h (row (D_b) [.bool (D.is), .int .i64 (D.left), .int .i64 (D.n), .map (some (D_held_b)), .slice (D_pend_a) (D.pend).length (D_pend_c)] 78 :: mpG Mwr (D_held_b) (D.held) (D_held_k) :: grow 80 RWr h (D.pend) (D_pend_a) (D_pend_c) :: L) w17 := ((((((hS16.move (i := 5) rfl).move (i := 5) rfl).move (i := 5) rfl).remove 5).remove 4).remove 3)
    exact ⟨[row (D_b) [.bool (D.is), .int .i64 (D.left), .int .i64 (D.n), .map (some (D_held_b)), .slice (D_pend_a) (D.pend).length (D_pend_c)] 78, mpG Mwr (D_held_b) (D.held) (D_held_k), grow 80 RWr h (D.pend) (D_pend_a) (D_pend_c)], ⟨(by first | rfl | (rw [e_]; done) | (rw [e_]; rfl) | (simp; done)), (by first | rfl | (rw [e_]; done) | (rw [e_]; rfl))⟩, hS18⟩
  · skip
    refine WC.skip ?_
    refine then_normal ?_
    refine WCX.seq ?_
    refine WCX.seq ?_
    refine WCX.of ?_
    refine WC.region ?_
    refine WL.val1 (R_move (v := .pointer (some ⟨D_b, 0, none⟩)) rfl) ?_
    refine WL.val1 (R_nilCheck rfl) ?_
    refine WL.val1 (R_fieldAddr (b := D_b) (off := 0) (m := 4) rfl (fun _ => by kernel_rfl)) ?_
    refine WL.val1 (R_load (v := .slice (D_pend_a) (D.pend).length (D_pend_c)) rfl (hS13.has (i := 3) rfl) (Tryz.isAgg76 _) rfl) ?_
    refine S_callH (vs := [.slice (D_pend_a) (D.pend).length (D_pend_c)]) (A := fun _ => []) (L := row (w4.heap.size) [.int .i64 (0)] 31 :: row (w2.heap.size) [.string (B (([] : Str)))] 9 :: row (w.heap.size) [.int .i64 (i)] 3 :: row (D_b) [.bool (D.is), .int .i64 (D.left), .int .i64 (D.n), .map (some (D_held_b)), .slice (D_pend_a) (D.pend).length (D_pend_c)] 78 :: mpG Mwr (D_held_b) (D.held) (D_held_k) :: grow 80 RWr h (D.pend) (D_pend_a) (D_pend_c) :: L) hS13 Tryz.call53 rfl (back_M (.slice (D_pend_a) (D.pend).length (D_pend_c)) rfl) trivial ?_
    intro A19 v20 w21 hp22 hS23
    obtain ⟨b24, rfl, rfl⟩ := hp22
    have hS23 : St Γ h (row (b24) [.slice (D_pend_a) (D.pend).length (D_pend_c)] 76 :: row (w4.heap.size) [.int .i64 (0)] 31 :: row (w2.heap.size) [.string (B (([] : Str)))] 9 :: row (w.heap.size) [.int .i64 (i)] 3 :: row (D_b) [.bool (D.is), .int .i64 (D.left), .int .i64 (D.n), .map (some (D_held_b)), .slice (D_pend_a) (D.pend).length (D_pend_c)] 78 :: mpG Mwr (D_held_b) (D.held) (D_held_k) :: grow 80 RWr h (D.pend) (D_pend_a) (D_pend_c) :: L) w21 := hS23
    refine WL.nil ?_
    refine then_normal ?_
    refine WCX.block ?_
    refine WCX.rangeNone (f := 60) (cap := [.pointer (some ⟨b24, 0, none⟩)]) hS23 rfl Tryz.call60 (fun l_ B1_ B2_ w_ q_ => backF_none q_ (i := 2) rfl (by simp [hp])) ?_
    intro db_ o_ w25 hS26
    refine block_normal ?_
    refine then_normal ?_
    refine WCX.seq ?_
    refine WCX.of ?_
    refine WC.draw 5 [(0, .pointer (some ⟨D_b, 0, none⟩)), (3, .pointer (some ⟨w.heap.size, 0, none⟩)), (4, .pointer (some ⟨w2.heap.size, 0, none⟩)), (5, .pointer (some ⟨w4.heap.size, 0, none⟩))] [fun _ v => v = .pointer (some ⟨D_b, 0, none⟩), fun _ v => v = .pointer (some ⟨D_b, 0, none⟩), fun _ v => v = .pointer (some ⟨D_b, 3, none⟩), fun _ v => v = .map (some (D_held_b)), fun _ v => v = .int .i64 (i)] hS26 (by kernel_rfl) (by kernel_rfl) (MonoFs.pure (MonoFs.pure (MonoFs.pure (MonoFs.pure (MonoFs.pure MonoFs.nil))))) ⟨rfl, rfl, rfl, rfl, trivial⟩ ⟨?_, ?_, ?_, ?_, ?_, trivial⟩ ?_
    · intro r_ w48 h49 hl50 hS47 hb_ hp_
      obtain ⟨b0_, b1_, b2_, b3_, _⟩ := hb_
      refine WL.val1 (R_move (v := .pointer (some ⟨D_b, 0, none⟩)) b0_) ?_
      refine WL.nil ?_
      exact ⟨rfl, _, _, rfl, (Hp.le_refl _), rfl, hS47⟩
    · intro r_ w52 h53 hl54 hS51 hb_ hp_
      obtain ⟨b0_, b1_, b2_, b3_, _⟩ := hb_
      obtain ⟨p0_, _⟩ := hp_
      have p0_ : r_ 25 = .pointer (some ⟨D_b, 0, none⟩) := p0_
      refine WL.val1 (R_nilCheck p0_) ?_
      refine WL.nil ?_
      exact ⟨rfl, _, _, rfl, (Hp.le_refl _), rfl, hS51⟩
    · intro r_ w56 h57 hl58 hS55 hb_ hp_
      obtain ⟨b0_, b1_, b2_, b3_, _⟩ := hb_
      obtain ⟨p0_, _⟩ := hp_
      have p0_ : r_ 26 = .pointer (some ⟨D_b, 0, none⟩) := p0_
      refine WL.val1 (R_fieldAddr (b := D_b) (off := 0) (m := 3) p0_ (fun _ => by kernel_rfl)) ?_
      refine WL.nil ?_
      exact ⟨rfl, _, _, rfl, (Hp.le_refl _), rfl, hS55⟩
    · intro r_ w60 h61 hl62 hS59 hb_ hp_
      obtain ⟨b0_, b1_, b2_, b3_, _⟩ := hb_
      obtain ⟨p0_, _⟩ := hp_
      have p0_ : r_ 27 = .pointer (some ⟨D_b, 3, none⟩) := p0_
      refine WL.val1 (R_load (v := .map (some (D_held_b))) p0_ (hS59.has (i := 6) rfl) (Tryz.isAgg75 _) rfl) ?_
      refine WL.nil ?_
      exact ⟨rfl, _, _, rfl, (Hp.le_refl _), rfl, hS59⟩
    · intro r_ w64 h65 hl66 hS63 hb_ hp_
      obtain ⟨b0_, b1_, b2_, b3_, _⟩ := hb_
      refine WL.val1 (R_load (v := .int .i64 (i)) b1_ (hS63.has (i := 5) rfl) (Tryz.isAgg3 _) rfl) ?_
      refine WL.nil ?_
      exact ⟨rfl, _, _, rfl, (Hp.le_refl _), rfl, hS63⟩
    · intro r_ w68 h69 hl70 hS67 hb_ hf_
      obtain ⟨b0_, b1_, b2_, b3_, _⟩ := hb_
      have q3_ := AF.get hf_ 3 (d := 28) rfl rfl
      have q4_ := AF.get hf_ 4 (d := 29) rfl rfl
      refine WL.frame [(0, .pointer (some ⟨D_b, 0, none⟩)), (3, .pointer (some ⟨w.heap.size, 0, none⟩)), (4, .pointer (some ⟨w2.heap.size, 0, none⟩)), (5, .pointer (some ⟨w4.heap.size, 0, none⟩)), (28, .map (some (D_held_b))), (29, .int .i64 (i))] ⟨b0_, b1_, b2_, b3_, q3_, q4_, trivial⟩ (fun r_ => ?_)
      obtain ⟨es71, ck72, hb73, hm74⟩ := hS67.hasMap (i := 7) rfl
      refine WL.val1 (R_lookupG (k := i) rfl rfl Tryz.underlying75 Tryz.underlying3 (fun _ => by kernel_rfl) hb73 hm74 (look_wr D.held i)) ?_
      refine WL.val1 (R_field (v := .agg #[.int .i64 ((match D.held i with | some x => x.i | none => 0)), .string (B ((secF D.held i)))]) (u := .string (B ((secF D.held i)))) rfl (fun _ => by kernel_rfl)) ?_
      refine S_store (i := 4) (b := w2.heap.size) (l := [.string (B (([] : Str)))]) (l' := [.string (B ((secF D.held i)))]) (vs := [.string (B ((secF D.held i)))]) (v := .string (B ((secF D.held i)))) hS67 rfl rfl rfl Tryz.sizeOf9 rfl rfl rfl (Nat.le_of_ble_eq_true rfl) rfl rfl ?_
      intro w76 hS75
      refine S_store (i := 3) (b := w4.heap.size) (l := [.int .i64 (0)]) (l' := [.int .i64 (0)]) (vs := [.int .i64 (0)]) (v := .int .i64 (0)) hS75 rfl rfl rfl Tryz.sizeOf31 rfl rfl rfl (Nat.le_of_ble_eq_true rfl) rfl rfl ?_
      intro w78 hS77
      refine WL.nil ?_
      refine then_normal ?_
      refine WCX.of ?_
      refine WC.ret ?_
      refine topM_mark (i := 1) hS77 rfl ?_
      intro w79 hS80
      refine ⟨.tuple #[.string (B ((secF D.held i))), .int .i64 (0)], (givesL2 (vs := [.string (B ((secF D.held i))), .int .i64 (0)]) rfl ⟨⟨w2.heap.size, 0, rfl, loadVar1 (hS80.has (i := 4) rfl) (Tryz.isAgg9 _) rfl⟩, ⟨w4.heap.size, 0, rfl, loadVar1 (hS80.has (i := 3) rfl) (Tryz.isAgg31 _) rfl⟩, trivial⟩ rfl), ?_⟩
      have e_ : readD D i = (secF D.held i, 0) := by unfold readD; rw [if_neg (by simpa using c0)]
      have hS81 : St Γ h69 (row (D_b) [.bool (D.is), .int .i64 (D.left), .int .i64 (D.n), .map (some (D_held_b)), .slice (D_pend_a) (D.pend).length (D_pend_c)] 78 :: mpG Mwr (D_held_b) (D.held) (D_held_k) :: grow 80 RWr h (D.pend) (D_pend_a) (D_pend_c) :: L) w79 := (((((((((hS80.move (i := 8) rfl).move (i := 8) rfl).move (i := 8) rfl).remove 8).remove 7).remove 6).remove 5).remove 4).remove 3)
      exact ⟨[row (D_b) [.bool (D.is), .int .i64 (D.left), .int .i64 (D.n), .map (some (D_held_b)), .slice (D_pend_a) (D.pend).length (D_pend_c)] 78, mpG Mwr (D_held_b) (D.held) (D_held_k), grow 80 RWr h (D.pend) (D_pend_a) (D_pend_c)], ⟨(by first | rfl | (rw [e_]; done) | (rw [e_]; rfl) | (simp; done)), (by first | rfl | (rw [e_]; done) | (rw [e_]; rfl))⟩, (hS81.weaken_h hl70)⟩
set_option maxHeartbeats 1000000 in
theorem store_Open (D : Dsk) (D_b : Nat) (D_held_b D_held_k : Nat) (D_pend_a : Option Addr) (D_pend_c : Nat) (S0 : Sto) (T : Str) (hn : 4 ≤ D.n ∧ D.n ≤ 4096) (hp0 : D.pend = []) (ho : OpenAt D S0 T) : MutH GG Tryz.prog 18 (fun _ => True) [.pointer (some ⟨D_b, 0, none⟩)] (fun h => [row (D_b) [.bool (D.is), .int .i64 (D.left), .int .i64 (D.n), .map (some (D_held_b)), .slice (D_pend_a) (D.pend).length (D_pend_c)] 78, mpG Mwr (D_held_b) (D.held) (D_held_k), grow 80 RWr h (D.pend) (D_pend_a) (D_pend_c)]) (fun h A v => ∃ (S1_b : Nat) (S1_files_a : Option Addr) (S1_files_c : Nat), v = .tuple #[.pointer (some ⟨S1_b, 0, none⟩), .int .i64 (0)] ∧ A = [row (D_b) [.bool (D.is), .int .i64 (D.left), .int .i64 (D.n), .map (some (D_held_b)), .slice (D_pend_a) (D.pend).length (D_pend_c)] 78, mpG Mwr (D_held_b) (D.held) (D_held_k), grow 80 RWr h (D.pend) (D_pend_a) (D_pend_c), row (S1_b) [.pointer (some ⟨D_b, 0, none⟩), .int .i64 (S0.g0), .int .i64 (S0.z0), .int .i64 (S0.g1), .int .i64 (S0.z1), .slice (S1_files_a) (S0.files).length (S1_files_c)] 60, grow 29 RFile h (S0.files) (S1_files_a) (S1_files_c)]) := by
  intro Γ h L w hpre hS
  have hs_ := ho.small
  have hd0_ : HdAt (readD D 0).1 S0.g0 S0.z0 := by rw [readD_in (by omega)]; exact ho.h0
  have hd1_ : HdAt (readD D 1).1 S0.g1 S0.z1 := by rw [readD_in (by omega)]; exact ho.h1
  refine Ret.body Tryz.func18 rfl Tryz.ntmps18 (Nat.le_of_ble_eq_true rfl) ?_
  have hS : St Γ h (row (D_b) [.bool (D.is), .int .i64 (D.left), .int .i64 (D.n), .map (some (D_held_b)), .slice (D_pend_a) (D.pend).length (D_pend_c)] 78 :: mpG Mwr (D_held_b) (D.held) (D_held_k) :: grow 80 RWr h (D.pend) (D_pend_a) (D_pend_c) :: L) w := hS
  refine WC.seq ?_
  refine WC.region ?_
  refine WL.val1 (R_assign (v := .pointer none) rfl) ?_
  refine WL.val1 (R_assign (v := .int .i64 (0)) rfl) ?_
  refine WL.nil ?_
  refine then_normal ?_
  refine WC.seq ?_
  refine WC.seq ?_
  refine WC.region ?_
  refine WL.val1 (R_move (v := .pointer (some ⟨D_b, 0, none⟩)) rfl) ?_
  refine S_callH (vs := [.pointer (some ⟨D_b, 0, none⟩)]) (A := fun hh_ => [row (D_b) [.bool (D.is), .int .i64 (D.left), .int .i64 (D.n), .map (some (D_held_b)), .slice (D_pend_a) (D.pend).length (D_pend_c)] 78, mpG Mwr (D_held_b) (D.held) (D_held_k), grow 80 RWr hh_ (D.pend) (D_pend_a) (D_pend_c)]) (L := L) hS Tryz.call25 rfl (disk_Len (D) (D_b) (D_held_b) (D_held_k) (D_pend_a) (D_pend_c)) trivial ?_
  intro A3 v4 w2 hp5 hS1
  obtain ⟨rfl, rfl⟩ := hp5
  have hS1 : St Γ h (row (D_b) [.bool (D.is), .int .i64 (D.left), .int .i64 (D.n), .map (some (D_held_b)), .slice (D_pend_a) (D.pend).length (D_pend_c)] 78 :: mpG Mwr (D_held_b) (D.held) (D_held_k) :: grow 80 RWr h (D.pend) (D_pend_a) (D_pend_c) :: L) w2 := hS1
  refine WL.val1 (R_lss (a := D.n) (b := 4) rfl rfl) ?_
  refine WL.nil ?_
  refine then_normal ?_
  refine WC.condP (D.n < 4) rfl (fun c0 => ?_) (fun c0 => ?_)
  · skip
    omega
  · skip
    refine WC.skip ?_
    refine then_normal ?_
    refine WC.seq ?_
    refine WC.region ?_
    refine WL.val1 (R_move (v := .pointer (some ⟨D_b, 0, none⟩)) rfl) ?_
    refine WL.val1 (R_build (vs := [(0, .pointer (some ⟨D_b, 0, none⟩))]) (v := .agg #[.pointer (some ⟨D_b, 0, none⟩), .int .i64 (0), .int .i64 (0), .int .i64 (0), .int .i64 (0), .slice none 0 0]) rfl (fun _ => by kernel_rfl)) ?_
    refine S_box (l := [.pointer (some ⟨D_b, 0, none⟩), .int .i64 (0), .int .i64 (0), .int .i64 (0), .int .i64 (0), .slice none 0 0]) (v := .agg #[.pointer (some ⟨D_b, 0, none⟩), .int .i64 (0), .int .i64 (0), .int .i64 (0), .int .i64 (0), .slice none 0 0]) hS1 rfl rfl ?_
    intro w7 hS6
    refine WL.val1 (R_assign (v := .pointer (some ⟨w2.heap.size, 0, none⟩)) rfl) ?_
    refine WL.nil ?_
    refine then_normal ?_
    refine WC.seq ?_
    refine WC.seq ?_
    refine WC.region ?_
    refine WL.val1 (R_move (v := .int .i64 (0)) rfl) ?_
    refine WL.nil ?_
    refine then_normal ?_
    refine WC.block ?_
    refine WC.unroll 3 ?_
    refine unr_succ ?_
    refine WC.seq ?_
    refine WC.region ?_
    refine WL.val1 (R_cast (R_lss (a := 0) (b := 2) rfl rfl) (bool_true (by decide))) ?_
    refine WL.nil ?_
    refine then_normal ?_
    refine WC.seq ?_
    refine WC.condT rfl ?_
    refine WC.skip ?_
    refine then_normal ?_
    refine WC.seq ?_
    refine WC.block ?_
    refine WC.seq ?_
    refine WC.region ?_
    refine WL.val1 (R_move (v := .int .i64 (0)) rfl) ?_
    refine WL.val1 (R_assign (v := .int .i64 (0)) rfl) ?_
    refine WL.nil ?_
    refine then_normal ?_
    refine WC.seq ?_
    refine WC.region ?_
    refine WL.val1 (R_move (v := .pointer (some ⟨D_b, 0, none⟩)) rfl) ?_
    refine WL.val1 (R_move (v := .int .i64 (0)) rfl) ?_
    have hS10 : St Γ h (row (D_b) [.bool (D.is), .int .i64 (D.left), .int .i64 (D.n), .map (some (D_held_b)), .slice (D_pend_a) (D.pend).length (D_pend_c)] 78 :: mpG Mwr (D_held_b) (D.held) (D_held_k) :: grow 80 RWr h (D.pend) (D_pend_a) (D_pend_c) :: row (w2.heap.size) [.pointer (some ⟨D_b, 0, none⟩), .int .i64 (0), .int .i64 (0), .int .i64 (0), .int .i64 (0), .slice none 0 0] 60 :: emp :: emp :: emp :: L) w7 := (((hS6.front (i := 3) rfl).front (i := 3) rfl).front (i := 3) rfl)
    refine S_callH (vs := [.pointer (some ⟨D_b, 0, none⟩), .int .i64 (0)]) (A := fun hh_ => [row (D_b) [.bool (D.is), .int .i64 (D.left), .int .i64 (D.n), .map (some (D_held_b)), .slice (D_pend_a) (D.pend).length (D_pend_c)] 78, mpG Mwr (D_held_b) (D.held) (D_held_k), grow 80 RWr hh_ (D.pend) (D_pend_a) (D_pend_c)]) (L := row (w2.heap.size) [.pointer (some ⟨D_b, 0, none⟩), .int .i64 (0), .int .i64 (0), .int .i64 (0), .int .i64 (0), .slice none 0 0] 60 :: emp :: emp :: emp :: L) hS10 Tryz.call38 rfl (disk_Read (D) (D_b) (D_held_b) (D_held_k) (D_pend_a) (D_pend_c) (0) (by first | assumption | omega)) trivial ?_
    intro A11 v12 w9 hp13 hS8
    obtain ⟨rfl, rfl⟩ := hp13
    have hS8 : St Γ h (row (D_b) [.bool (D.is), .int .i64 (D.left), .int .i64 (D.n), .map (some (D_held_b)), .slice (D_pend_a) (D.pend).length (D_pend_c)] 78 :: mpG Mwr (D_held_b) (D.held) (D_held_k) :: grow 80 RWr h (D.pend) (D_pend_a) (D_pend_c) :: row (w2.heap.size) [.pointer (some ⟨D_b, 0, none⟩), .int .i64 (0), .int .i64 (0), .int .i64 (0), .int .i64 (0), .slice none 0 0] 60 :: emp :: emp :: emp :: L) w9 := hS8
    have hS14 : St Γ h (row (w2.heap.size) [.pointer (some ⟨D_b, 0, none⟩), .int .i64 (0), .int .i64 (0), .int .i64 (0), .int .i64 (0), .slice none 0 0] 60 :: row (D_b) [.bool (D.is), .int .i64 (D.left), .int .i64 (D.n), .map (some (D_held_b)), .slice (D_pend_a) (D.pend).length (D_pend_c)] 78 :: mpG Mwr (D_held_b) (D.held) (D_held_k) :: grow 80 RWr h (D.pend) (D_pend_a) (D_pend_c) :: L) w9 := (St.back2 (i := 3) (St.back2 (i := 3) (St.back2 (i := 3) hS8 rfl) rfl) rfl)
    refine WL.val1 (R_move (v := .tuple #[.string (B ((readD D 0).1)), .int .i64 ((readD D 0).2)]) rfl) ?_
    refine WL.val1 (R_extract (vs := ([.string (B ((readD D 0).1)), .int .i64 ((readD D 0).2)] : List Value).toArray) (v := .string (B ((readD D 0).1))) rfl rfl) ?_
    refine WL.val1 (R_extract (vs := ([.string (B ((readD D 0).1)), .int .i64 ((readD D 0).2)] : List Value).toArray) (v := .int .i64 ((readD D 0).2)) rfl rfl) ?_
    refine WL.val1 (R_assign (v := .string (B ((readD D 0).1))) rfl) ?_
    refine WL.val1 (R_assign (v := .int .i64 ((readD D 0).2)) rfl) ?_
    refine WL.nil ?_
    refine then_normal ?_
    refine WC.draw 6 [(0, .pointer (some ⟨D_b, 0, none⟩)), (4, .pointer (some ⟨w2.heap.size, 0, none⟩)), (5, .int .i64 (0)), (6, .string (B ((readD D 0).1))), (21, .int .i64 (0))] [fun _ v => v = .pointer (some ⟨w2.heap.size, 0, none⟩), fun _ v => v = .int .i64 (0), fun _ v => v = .string (B ((readD D 0).1)), fun _ v => v = .agg #[.int .i64 (S0.g0), .int .i64 (S0.z0)], fun _ v => v = .pointer (some ⟨w2.heap.size, 0, none⟩), fun _ v => v = .pointer (some ⟨w2.heap.size, 1, none⟩)] hS14 (by kernel_rfl) (by kernel_rfl) (MonoFs.pure (MonoFs.pure (MonoFs.pure (MonoFs.pure (MonoFs.pure (MonoFs.pure MonoFs.nil)))))) ⟨rfl, rfl, rfl, rfl, rfl, trivial⟩ ⟨?_, ?_, ?_, ?_, ?_, ?_, trivial⟩ ?_
    · intro r_ w42 h43 hl44 hS41 hb_ hp_
      obtain ⟨b0_, b1_, b2_, b3_, b4_, _⟩ := hb_
      refine WL.val1 (R_move (v := .pointer (some ⟨w2.heap.size, 0, none⟩)) b1_) ?_
      refine WL.nil ?_
      exact ⟨rfl, _, _, rfl, (Hp.le_refl _), rfl, hS41⟩
    · intro r_ w46 h47 hl48 hS45 hb_ hp_
      obtain ⟨b0_, b1_, b2_, b3_, b4_, _⟩ := hb_
      refine WL.val1 (R_move (v := .int .i64 (0)) b2_) ?_
      refine WL.nil ?_
      exact ⟨rfl, _, _, rfl, (Hp.le_refl _), rfl, hS45⟩
    · intro r_ w50 h51 hl52 hS49 hb_ hp_
      obtain ⟨b0_, b1_, b2_, b3_, b4_, _⟩ := hb_
      refine WL.val1 (R_move (v := .string (B ((readD D 0).1))) b3_) ?_
      refine WL.nil ?_
      exact ⟨rfl, _, _, rfl, (Hp.le_refl _), rfl, hS49⟩
    · intro r_ w54 h55 hl56 hS53 hb_ hp_
      obtain ⟨b0_, b1_, b2_, b3_, b4_, _⟩ := hb_
      obtain ⟨p0_, _⟩ := hp_
      have p0_ : r_ 32 = .string (B ((readD D 0).1)) := p0_
      refine S_callP (vs := [.string (B ((readD D 0).1))]) hS53 Tryz.call39 (hmap1 p0_) (store_read ((readD D 0).1) (S0.g0) (S0.z0) (by first | assumption | omega)) trivial ?_
      intro w58 hS57
      refine WL.nil ?_
      exact ⟨rfl, _, _, rfl, (Hp.le_refl _), rfl, hS57⟩
    · intro r_ w60 h61 hl62 hS59 hb_ hp_
      obtain ⟨b0_, b1_, b2_, b3_, b4_, _⟩ := hb_
      obtain ⟨p0_, _⟩ := hp_
      have p0_ : r_ 30 = .pointer (some ⟨w2.heap.size, 0, none⟩) := p0_
      refine WL.val1 (R_nilCheck p0_) ?_
      refine WL.nil ?_
      exact ⟨rfl, _, _, rfl, (Hp.le_refl _), rfl, hS59⟩
    · intro r_ w64 h65 hl66 hS63 hb_ hp_
      obtain ⟨b0_, b1_, b2_, b3_, b4_, _⟩ := hb_
      obtain ⟨p0_, _⟩ := hp_
      have p0_ : r_ 34 = .pointer (some ⟨w2.heap.size, 0, none⟩) := p0_
      refine WL.val1 (R_fieldAddr (b := w2.heap.size) (off := 0) (m := 1) p0_ (fun _ => by kernel_rfl)) ?_
      refine WL.nil ?_
      exact ⟨rfl, _, _, rfl, (Hp.le_refl _), rfl, hS63⟩
    · intro r_ w68 h69 hl70 hS67 hb_ hf_
      obtain ⟨b0_, b1_, b2_, b3_, b4_, _⟩ := hb_
      have q1_ := AF.get hf_ 1 (d := 31) rfl rfl
      have q3_ := AF.get hf_ 3 (d := 33) rfl rfl
      have q5_ := AF.get hf_ 5 (d := 35) rfl rfl
      refine WL.frame [(0, .pointer (some ⟨D_b, 0, none⟩)), (4, .pointer (some ⟨w2.heap.size, 0, none⟩)), (5, .int .i64 (0)), (6, .string (B ((readD D 0).1))), (21, .int .i64 (0)), (31, .int .i64 (0)), (33, .agg #[.int .i64 (S0.g0), .int .i64 (S0.z0)]), (35, .pointer (some ⟨w2.heap.size, 1, none⟩))] ⟨b0_, b1_, b2_, b3_, b4_, q1_, q3_, q5_, trivial⟩ (fun r_ => ?_)
      refine WL.val1 (R_indexArr (b := w2.heap.size) (o := 1) (i := 0) (m := 0) rfl rfl Tryz.underlying58 (Tryz.sizeOf57 _) rfl (by decide)) ?_
      refine S_store (i := 0) (b := w2.heap.size) (l := [.pointer (some ⟨D_b, 0, none⟩), .int .i64 (0), .int .i64 (0), .int .i64 (0), .int .i64 (0), .slice none 0 0]) (l' := [.pointer (some ⟨D_b, 0, none⟩), .int .i64 (S0.g0), .int .i64 (S0.z0), .int .i64 (0), .int .i64 (0), .slice none 0 0]) (vs := [.int .i64 (S0.g0), .int .i64 (S0.z0)]) (v := .agg #[.int .i64 (S0.g0), .int .i64 (S0.z0)]) hS67 rfl rfl rfl Tryz.sizeOf57 rfl rfl rfl (Nat.le_of_ble_eq_true rfl) rfl rfl ?_
      intro w72 hS71
      refine WL.nil ?_
      refine block_normal ?_
      refine then_normal ?_
      refine WC.region ?_
      refine WL.val1 (R_cast (v' := .int .i64 (1)) (R_add_i (a := 0) (b := 1) rfl rfl (by omega)) (by rfl)) ?_
      refine WL.val1 (R_move (v := .int .i64 (1)) rfl) ?_
      refine WL.nil ?_
      refine then_normal ?_
      refine unr_succ ?_
      refine WC.seq ?_
      refine WC.region ?_
      refine WL.val1 (R_cast (R_lss (a := 1) (b := 2) rfl rfl) (bool_true (by decide))) ?_
      refine WL.nil ?_
      refine then_normal ?_
      refine WC.seq ?_
      refine WC.condT rfl ?_
      refine WC.skip ?_
      refine then_normal ?_
      refine WC.seq ?_
      refine WC.block ?_
      refine WC.seq ?_
      refine WC.region ?_
      refine WL.val1 (R_move (v := .int .i64 (1)) rfl) ?_
      refine WL.val1 (R_assign (v := .int .i64 (1)) rfl) ?_
      refine WL.nil ?_
      refine then_normal ?_
      refine WC.seq ?_
      refine WC.region ?_
      refine WL.val1 (R_move (v := .pointer (some ⟨D_b, 0, none⟩)) rfl) ?_
      refine WL.val1 (R_move (v := .int .i64 (1)) rfl) ?_
      have hS75 := hS71.growMono (i := 3) rfl hl70
      have hS76 : St Γ h69 (row (D_b) [.bool (D.is), .int .i64 (D.left), .int .i64 (D.n), .map (some (D_held_b)), .slice (D_pend_a) (D.pend).length (D_pend_c)] 78 :: mpG Mwr (D_held_b) (D.held) (D_held_k) :: grow 80 RWr h69 (D.pend) (D_pend_a) (D_pend_c) :: row (w2.heap.size) [.pointer (some ⟨D_b, 0, none⟩), .int .i64 (S0.g0), .int .i64 (S0.z0), .int .i64 (0), .int .i64 (0), .slice none 0 0] 60 :: emp :: emp :: emp :: L) w72 := (((hS75.front (i := 3) rfl).front (i := 3) rfl).front (i := 3) rfl)
      refine S_callH (vs := [.pointer (some ⟨D_b, 0, none⟩), .int .i64 (1)]) (A := fun hh_ => [row (D_b) [.bool (D.is), .int .i64 (D.left), .int .i64 (D.n), .map (some (D_held_b)), .slice (D_pend_a) (D.pend).length (D_pend_c)] 78, mpG Mwr (D_held_b) (D.held) (D_held_k), grow 80 RWr hh_ (D.pend) (D_pend_a) (D_pend_c)]) (L := row (w2.heap.size) [.pointer (some ⟨D_b, 0, none⟩), .int .i64 (S0.g0), .int .i64 (S0.z0), .int .i64 (0), .int .i64 (0), .slice none 0 0] 60 :: emp :: emp :: emp :: L) hS76 Tryz.call38 rfl (disk_Read (D) (D_b) (D_held_b) (D_held_k) (D_pend_a) (D_pend_c) (1) (by first | assumption | omega)) trivial ?_
      intro A77 v78 w74 hp79 hS73
      obtain ⟨rfl, rfl⟩ := hp79
      have hS73 : St Γ h69 (row (D_b) [.bool (D.is), .int .i64 (D.left), .int .i64 (D.n), .map (some (D_held_b)), .slice (D_pend_a) (D.pend).length (D_pend_c)] 78 :: mpG Mwr (D_held_b) (D.held) (D_held_k) :: grow 80 RWr h69 (D.pend) (D_pend_a) (D_pend_c) :: row (w2.heap.size) [.pointer (some ⟨D_b, 0, none⟩), .int .i64 (S0.g0), .int .i64 (S0.z0), .int .i64 (0), .int .i64 (0), .slice none 0 0] 60 :: emp :: emp :: emp :: L) w74 := hS73
      have hS80 : St Γ h69 (row (w2.heap.size) [.pointer (some ⟨D_b, 0, none⟩), .int .i64 (S0.g0), .int .i64 (S0.z0), .int .i64 (0), .int .i64 (0), .slice none 0 0] 60 :: row (D_b) [.bool (D.is), .int .i64 (D.left), .int .i64 (D.n), .map (some (D_held_b)), .slice (D_pend_a) (D.pend).length (D_pend_c)] 78 :: mpG Mwr (D_held_b) (D.held) (D_held_k) :: grow 80 RWr h69 (D.pend) (D_pend_a) (D_pend_c) :: L) w74 := (St.back2 (i := 3) (St.back2 (i := 3) (St.back2 (i := 3) hS73 rfl) rfl) rfl)
      refine WL.val1 (R_move (v := .tuple #[.string (B ((readD D 1).1)), .int .i64 ((readD D 1).2)]) rfl) ?_
      refine WL.val1 (R_extract (vs := ([.string (B ((readD D 1).1)), .int .i64 ((readD D 1).2)] : List Value).toArray) (v := .string (B ((readD D 1).1))) rfl rfl) ?_
      refine WL.val1 (R_extract (vs := ([.string (B ((readD D 1).1)), .int .i64 ((readD D 1).2)] : List Value).toArray) (v := .int .i64 ((readD D 1).2)) rfl rfl) ?_
      refine WL.val1 (R_assign (v := .string (B ((readD D 1).1))) rfl) ?_
      refine WL.val1 (R_assign (v := .int .i64 ((readD D 1).2)) rfl) ?_
      refine WL.nil ?_
      refine then_normal ?_
      refine WC.draw 6 [(0, .pointer (some ⟨D_b, 0, none⟩)), (4, .pointer (some ⟨w2.heap.size, 0, none⟩)), (5, .int .i64 (1)), (6, .string (B ((readD D 1).1))), (21, .int .i64 (1)), (36, .pointer (some ⟨w2.heap.size, 1, none⟩))] [fun _ v => v = .pointer (some ⟨w2.heap.size, 0, none⟩), fun _ v => v = .int .i64 (1), fun _ v => v = .string (B ((readD D 1).1)), fun _ v => v = .agg #[.int .i64 (S0.g1), .int .i64 (S0.z1)], fun _ v => v = .pointer (some ⟨w2.heap.size, 0, none⟩), fun _ v => v = .pointer (some ⟨w2.heap.size, 1, none⟩)] hS80 (by kernel_rfl) (by kernel_rfl) (MonoFs.pure (MonoFs.pure (MonoFs.pure (MonoFs.pure (MonoFs.pure (MonoFs.pure MonoFs.nil)))))) ⟨rfl, rfl, rfl, rfl, rfl, rfl, trivial⟩ ⟨?_, ?_, ?_, ?_, ?_, ?_, trivial⟩ ?_
      · intro r_ w108 h109 hl110 hS107 hb_ hp_
        obtain ⟨b0_, b1_, b2_, b3_, b4_, b5_, _⟩ := hb_
        refine WL.val1 (R_move (v := .pointer (some ⟨w2.heap.size, 0, none⟩)) b1_) ?_
        refine WL.nil ?_
        exact ⟨rfl, _, _, rfl, (Hp.le_refl _), rfl, hS107⟩
      · intro r_ w112 h113 hl114 hS111 hb_ hp_
        obtain ⟨b0_, b1_, b2_, b3_, b4_, b5_, _⟩ := hb_
        refine WL.val1 (R_move (v := .int .i64 (1)) b2_) ?_
        refine WL.nil ?_
        exact ⟨rfl, _, _, rfl, (Hp.le_refl _), rfl, hS111⟩
      · intro r_ w116 h117 hl118 hS115 hb_ hp_
        obtain ⟨b0_, b1_, b2_, b3_, b4_, b5_, _⟩ := hb_
        refine WL.val1 (R_move (v := .string (B ((readD D 1).1))) b3_) ?_
        refine WL.nil ?_
        exact ⟨rfl, _, _, rfl, (Hp.le_refl _), rfl, hS115⟩
      · intro r_ w120 h121 hl122 hS119 hb_ hp_
        obtain ⟨b0_, b1_, b2_, b3_, b4_, b5_, _⟩ := hb_
        obtain ⟨p0_, _⟩ := hp_
        have p0_ : r_ 32 = .string (B ((readD D 1).1)) := p0_
        refine S_callP (vs := [.string (B ((readD D 1).1))]) hS119 Tryz.call39 (hmap1 p0_) (store_read ((readD D 1).1) (S0.g1) (S0.z1) (by first | assumption | omega)) trivial ?_
        intro w124 hS123
        refine WL.nil ?_
        exact ⟨rfl, _, _, rfl, (Hp.le_refl _), rfl, hS123⟩
      · intro r_ w126 h127 hl128 hS125 hb_ hp_
        obtain ⟨b0_, b1_, b2_, b3_, b4_, b5_, _⟩ := hb_
        obtain ⟨p0_, _⟩ := hp_
        have p0_ : r_ 30 = .pointer (some ⟨w2.heap.size, 0, none⟩) := p0_
        refine WL.val1 (R_nilCheck p0_) ?_
        refine WL.nil ?_
        exact ⟨rfl, _, _, rfl, (Hp.le_refl _), rfl, hS125⟩
      · intro r_ w130 h131 hl132 hS129 hb_ hp_
        obtain ⟨b0_, b1_, b2_, b3_, b4_, b5_, _⟩ := hb_
        obtain ⟨p0_, _⟩ := hp_
        have p0_ : r_ 34 = .pointer (some ⟨w2.heap.size, 0, none⟩) := p0_
        refine WL.val1 (R_fieldAddr (b := w2.heap.size) (off := 0) (m := 1) p0_ (fun _ => by kernel_rfl)) ?_
        refine WL.nil ?_
        exact ⟨rfl, _, _, rfl, (Hp.le_refl _), rfl, hS129⟩
      · intro r_ w134 h135 hl136 hS133 hb_ hf_
        obtain ⟨b0_, b1_, b2_, b3_, b4_, b5_, _⟩ := hb_
        have q1_ := AF.get hf_ 1 (d := 31) rfl rfl
        have q3_ := AF.get hf_ 3 (d := 33) rfl rfl
        have q5_ := AF.get hf_ 5 (d := 35) rfl rfl
        refine WL.frame [(0, .pointer (some ⟨D_b, 0, none⟩)), (4, .pointer (some ⟨w2.heap.size, 0, none⟩)), (5, .int .i64 (1)), (6, .string (B ((readD D 1).1))), (21, .int .i64 (1)), (36, .pointer (some ⟨w2.heap.size, 1, none⟩)), (31, .int .i64 (1)), (33, .agg #[.int .i64 (S0.g1), .int .i64 (S0.z1)]), (35, .pointer (some ⟨w2.heap.size, 1, none⟩))] ⟨b0_, b1_, b2_, b3_, b4_, b5_, q1_, q3_, q5_, trivial⟩ (fun r_ => ?_)
        refine WL.val1 (R_indexArr (b := w2.heap.size) (o := 1) (i := 1) (m := 1) rfl rfl Tryz.underlying58 (Tryz.sizeOf57 _) rfl (by decide)) ?_
        refine S_store (i := 0) (b := w2.heap.size) (l := [.pointer (some ⟨D_b, 0, none⟩), .int .i64 (S0.g0), .int .i64 (S0.z0), .int .i64 (0), .int .i64 (0), .slice none 0 0]) (l' := [.pointer (some ⟨D_b, 0, none⟩), .int .i64 (S0.g0), .int .i64 (S0.z0), .int .i64 (S0.g1), .int .i64 (S0.z1), .slice none 0 0]) (vs := [.int .i64 (S0.g1), .int .i64 (S0.z1)]) (v := .agg #[.int .i64 (S0.g1), .int .i64 (S0.z1)]) hS133 rfl rfl rfl Tryz.sizeOf57 rfl rfl rfl (Nat.le_of_ble_eq_true rfl) rfl rfl ?_
        intro w138 hS137
        refine WL.nil ?_
        refine block_normal ?_
        refine then_normal ?_
        refine WC.region ?_
        refine WL.val1 (R_cast (v' := .int .i64 (2)) (R_add_i (a := 1) (b := 1) rfl rfl (by omega)) (by rfl)) ?_
        refine WL.val1 (R_move (v := .int .i64 (2)) rfl) ?_
        refine WL.nil ?_
        refine then_normal ?_
        refine unr_succ ?_
        refine WC.seq ?_
        refine WC.region ?_
        refine WL.val1 (R_cast (R_lss (a := 2) (b := 2) rfl rfl) (bool_false (by decide))) ?_
        refine WL.nil ?_
        refine then_normal ?_
        refine WC.seq ?_
        refine WC.condF rfl ?_
        refine WC.exit ?_
        refine then_exit ?_
        refine then_exit ?_
        refine block_exit ?_
        refine then_normal ?_
        refine WC.seq ?_
        by_cases hnow_ : S0.g0 < S0.g1
        · skip
          have hnw_ : ∀ f : List File, nowS ⟨S0.g0, S0.z0, S0.g1, S0.z1, f⟩ = 1 := fun f => if_pos hnow_
          have hnw0_ : nowS S0 = 1 := if_pos hnow_
          have hlen_ := ho.len
          rw [if_pos hnow_] at hlen_
          refine WC.region ?_
          refine WL.val1 (R_move (v := .pointer (some ⟨w2.heap.size, 0, none⟩)) rfl) ?_
          have hS139 := hS137.growNil 29 RFile h135
          have hS142 := hS139.growMono (i := 4) rfl hl136
          have hS143 : St Γ h135 (row (w2.heap.size) [.pointer (some ⟨D_b, 0, none⟩), .int .i64 (S0.g0), .int .i64 (S0.z0), .int .i64 (S0.g1), .int .i64 (S0.z1), .slice (none) 0 (0)] 60 :: grow 29 RFile h135 (([] : List File)) (none) (0) :: row (D_b) [.bool (D.is), .int .i64 (D.left), .int .i64 (D.n), .map (some (D_held_b)), .slice (D_pend_a) (D.pend).length (D_pend_c)] 78 :: mpG Mwr (D_held_b) (D.held) (D_held_k) :: grow 80 RWr h135 (D.pend) (D_pend_a) (D_pend_c) :: emp :: emp :: emp :: emp :: emp :: L) w138 := (((((hS142.front (i := 4) rfl).front (i := 4) rfl).front (i := 4) rfl).front (i := 3) rfl).front (i := 5) rfl)
          refine S_callH (vs := [.pointer (some ⟨w2.heap.size, 0, none⟩)]) (A := fun hh_ => [row (w2.heap.size) [.pointer (some ⟨D_b, 0, none⟩), .int .i64 (S0.g0), .int .i64 (S0.z0), .int .i64 (S0.g1), .int .i64 (S0.z1), .slice (none) 0 (0)] 60, grow 29 RFile hh_ (([] : List File)) (none) (0), row (D_b) [.bool (D.is), .int .i64 (D.left), .int .i64 (D.n), .map (some (D_held_b)), .slice (D_pend_a) (D.pend).length (D_pend_c)] 78, mpG Mwr (D_held_b) (D.held) (D_held_k), grow 80 RWr hh_ (D.pend) (D_pend_a) (D_pend_c)]) (L := emp :: emp :: emp :: emp :: emp :: L) hS143 Tryz.call27 rfl (by have k_ := (store_now ({ g0 := S0.g0, z0 := S0.z0, g1 := S0.g1, z1 := S0.z1, files := ([] : List File) } : Sto) (w2.heap.size) (none) (0) (D) (D_b) (D_held_b) (D_held_k) (D_pend_a) (D_pend_c)); rw [hnw_] at k_; exact k_) (by exact trivial) ?_
          intro A144 v145 w141 hp146 hS140
          obtain ⟨rfl, rfl⟩ := hp146
          have hS140 : St Γ h135 (row (w2.heap.size) [.pointer (some ⟨D_b, 0, none⟩), .int .i64 (S0.g0), .int .i64 (S0.z0), .int .i64 (S0.g1), .int .i64 (S0.z1), .slice (none) 0 (0)] 60 :: grow 29 RFile h135 (([] : List File)) (none) (0) :: row (D_b) [.bool (D.is), .int .i64 (D.left), .int .i64 (D.n), .map (some (D_held_b)), .slice (D_pend_a) (D.pend).length (D_pend_c)] 78 :: mpG Mwr (D_held_b) (D.held) (D_held_k) :: grow 80 RWr h135 (D.pend) (D_pend_a) (D_pend_c) :: emp :: emp :: emp :: emp :: emp :: L) w141 := hS140
          have hS147 : St Γ h135 (grow 29 RFile h135 (([] : List File)) (none) (0) :: row (w2.heap.size) [.pointer (some ⟨D_b, 0, none⟩), .int .i64 (S0.g0), .int .i64 (S0.z0), .int .i64 (S0.g1), .int .i64 (S0.z1), .slice (none) 0 (0)] 60 :: row (D_b) [.bool (D.is), .int .i64 (D.left), .int .i64 (D.n), .map (some (D_held_b)), .slice (D_pend_a) (D.pend).length (D_pend_c)] 78 :: mpG Mwr (D_held_b) (D.held) (D_held_k) :: grow 80 RWr h135 (D.pend) (D_pend_a) (D_pend_c) :: L) w141 := (St.back2 (i := 4) (St.back2 (i := 4) (St.back2 (i := 4) (St.back2 (i := 3) (St.back2 (i := 5) hS140 rfl) rfl) rfl) rfl) rfl)
          refine WL.val1 (R_assign (v := .int .i64 (1)) rfl) ?_
          refine WL.nil ?_
          refine then_normal ?_
          refine WC.seq ?_
          have hS148 : St Γ h135 (row (D_b) [.bool (D.is), .int .i64 (D.left), .int .i64 (D.n), .map (some (D_held_b)), .slice (D_pend_a) (D.pend).length (D_pend_c)] 78 :: mpG Mwr (D_held_b) (D.held) (D_held_k) :: grow 80 RWr h135 (D.pend) (D_pend_a) (D_pend_c) :: row (w2.heap.size) [.pointer (some ⟨D_b, 0, none⟩), .int .i64 (S0.g0), .int .i64 (S0.z0), .int .i64 (S0.g1), .int .i64 (S0.z1), .slice (none) 0 (0)] 60 :: grow 29 RFile h135 (([] : List File)) (none) (0) :: L) w141 := (((((hS147.move (i := 0) rfl).move (i := 1) rfl).move (i := 4) rfl).move (i := 4) rfl).move (i := 4) rfl)
          obtain ⟨Γ2, g0_, hwe_, hg0_, hM0_, hMl_, hin_, hS149, back_⟩ := St.sub (A := [row (D_b) [.bool (D.is), .int .i64 (D.left), .int .i64 (D.n), .map (some (D_held_b)), .slice (D_pend_a) (D.pend).length (D_pend_c)] 78, mpG Mwr (D_held_b) (D.held) (D_held_k), grow 80 RWr h135 (D.pend) (D_pend_a) (D_pend_c), row (w2.heap.size) [.pointer (some ⟨D_b, 0, none⟩), .int .i64 (S0.g0), .int .i64 (S0.z0), .int .i64 (S0.g1), .int .i64 (S0.z1), .slice (none) 0 (0)] 60, grow 29 RFile h135 (([] : List File)) (none) (0)]) (L0 := L) hS148
          have hM_ := fun b_ => (hM0_ b_).trans (((Dms.cons (Dm_row (by decide)) (Dms.cons Dm_map (Dms.cons (Dm_grow (by decide)) (Dms.cons (Dm_row (by decide)) (Dms.cons (Dm_grow (by decide)) Dms.nil))))) g0_ hg0_).1 b_)
          have hMl2_ : ∀ b, Γ2.M b → b < Γ2.we.heap.size := by rw [hwe_]; exact hMl_
          have hin2_ : In h135 Γ2.we := by rw [hwe_]; exact hin_
          have hbs_ : Γ2.we.heap.size ≤ w141.heap.size := by rw [hwe_]; exact Nat.le_refl _
          obtain ⟨L2, hL2_⟩ : ∃ L2 : List HProp, L2 = [] := ⟨_, rfl⟩
          have hS150 : St Γ2 h135 (row (D_b) [.bool (D.is), .int .i64 (D.left), .int .i64 (D.n), .map (some (D_held_b)), .slice (D_pend_a) (D.pend).length (D_pend_c)] 78 :: mpG Mwr (D_held_b) (D.held) (D_held_k) :: grow 80 RWr h135 (D.pend) (D_pend_a) (D_pend_c) :: row (w2.heap.size) [.pointer (some ⟨D_b, 0, none⟩), .int .i64 (S0.g0), .int .i64 (S0.z0), .int .i64 (S0.g1), .int .i64 (S0.z1), .slice (none) 0 (0)] 60 :: grow 29 RFile h135 (([] : List File)) (none) (0) :: L2) w141 := by rw [hL2_]; exact hS149
          refine WC.region ?_
          refine S_alloc hS150 Tryz.zeroValue88 ?_
          intro w152 hS151
          refine WL.nil ?_
          refine then_normal ?_
          refine WC.seq ?_
          refine WC.seq ?_
          refine WC.region ?_
          refine WL.val1 (R_assign (v := .int .i64 (0)) rfl) ?_
          refine WL.nil ?_
          refine then_normal ?_
          refine WC.block ?_
          have hS153 := hS151.growNil 5 Rby h135
          refine WC.loopL (σ := Nat × (List UInt8) × (Option Addr) × Nat × Value)
            (fun (q_ : Nat × (List UInt8) × (Option Addr) × Nat × Value) => (fun (i : Nat) (out : List UInt8) (out_a : Option Addr) (out_c : Nat) (p : Value) => [(0, .pointer (some ⟨D_b, 0, none⟩)), (4, .pointer (some ⟨w2.heap.size, 0, none⟩)), (8, .int .i64 (1)), (9, .pointer (some ⟨w141.heap.size, 0, none⟩)), (10, .int .i64 (((i : Nat) : Int)))]) (q_.1) (q_.2.1) (q_.2.2.1) (q_.2.2.2.1) (q_.2.2.2.2))
            (fun (q_ : Nat × (List UInt8) × (Option Addr) × Nat × Value) (w_ : World) => (fun (i : Nat) (out : List UInt8) (out_a : Option Addr) (out_c : Nat) (p : Value) => ∃ h156 : Hp, h135.le h156 ∧ St Γ2 h156 (grow 5 Rby h156 (out) (out_a) (out_c) :: row (w141.heap.size) [p, .slice (out_a) (out).length (out_c)] 88 :: row (D_b) [.bool (D.is), .int .i64 (D.left), .int .i64 (D.n), .map (some (D_held_b)), .slice (D_pend_a) (D.pend).length (D_pend_c)] 78 :: mpG Mwr (D_held_b) (D.held) (D_held_k) :: grow 80 RWr h156 (D.pend) (D_pend_a) (D_pend_c) :: row (w2.heap.size) [.pointer (some ⟨D_b, 0, none⟩), .int .i64 (S0.g0), .int .i64 (S0.z0), .int .i64 (S0.g1), .int .i64 (S0.z1), .slice (none) 0 (0)] 60 :: grow 29 RFile h156 (([] : List File)) (none) (0) :: L2) w_ ∧ (out = T.take (64 * i)) ∧ (i ≤ 100000) ∧ (p = .pointer none ∨ p = .pointer (some ⟨w141.heap.size, 0, none⟩))) (q_.1) (q_.2.1) (q_.2.2.1) (q_.2.2.2.1) (q_.2.2.2.2))
            (fun (q_ : Nat × (List UInt8) × (Option Addr) × Nat × Value) => (fun (i : Nat) (out : List UInt8) (out_a : Option Addr) (out_c : Nat) (p : Value) => T.length - out.length) (q_.1) (q_.2.1) (q_.2.2.1) (q_.2.2.2.1) (q_.2.2.2.2)) (0, ([] : List UInt8), none, 0, .pointer none) ?_ ?_ ?_
          · exact ⟨rfl, rfl, rfl, rfl, (by first | rfl | (apply congrArg (Value.int .i64); omega) | simp), trivial⟩
          · exact ⟨h135, Hp.le_refl _, hS153, (by rfl), (by first | assumption | omega | simp), (by exact .inl rfl)⟩
          · rintro ⟨i, out, out_a, out_c, p⟩ r158 w155 ⟨h156, hl157, hS154, f1, f2, hp⟩
            try dsimp only at f1 f2 hp
            have hol_ : out.length ≤ T.length := by rw [f1, List.length_take]; omega
            refine WC.seq ?_
            refine WC.seq ?_
            refine WC.draw 8 [(0, .pointer (some ⟨D_b, 0, none⟩)), (4, .pointer (some ⟨w2.heap.size, 0, none⟩)), (8, .int .i64 (1)), (9, .pointer (some ⟨w141.heap.size, 0, none⟩)), (10, .int .i64 (((i : Nat) : Int)))] [fun _ v => v = .int .i64 ((((out).length : Nat) : Int)), fun _ v => v = .pointer (some ⟨w2.heap.size, 0, none⟩), fun _ v => v = .int .i64 (1), fun _ v => v = .pointer (some ⟨w2.heap.size, 0, none⟩), fun _ v => v = .pointer (some ⟨w2.heap.size, 1, none⟩), fun _ v => v = .pointer (some ⟨w2.heap.size, 3, none⟩), fun _ v => v = .pointer (some ⟨w2.heap.size, 4, none⟩), fun _ v => v = .int .i64 (S0.z1)] hS154 (by kernel_rfl) (by kernel_rfl) (MonoFs.pure (MonoFs.pure (MonoFs.pure (MonoFs.pure (MonoFs.pure (MonoFs.pure (MonoFs.pure (MonoFs.pure MonoFs.nil)))))))) ⟨rfl, rfl, rfl, rfl, rfl, trivial⟩ ⟨?_, ?_, ?_, ?_, ?_, ?_, ?_, ?_, trivial⟩ ?_
            · intro r_ w194 h195 hl196 hS193 hb_ hp_
              obtain ⟨b0_, b1_, b2_, b3_, b4_, _⟩ := hb_
              refine S_call (vs := [.pointer (some ⟨w141.heap.size, 0, none⟩)]) Tryz.call40 (hmap1 b3_) ((bld_LenS hS193 (i := 1) rfl).mono ?_)
              rintro _ w197 ⟨rfl, hS198⟩
              refine WL.nil ?_
              exact ⟨rfl, _, _, rfl, (Hp.le_refl _), rfl, hS198⟩
            · intro r_ w200 h201 hl202 hS199 hb_ hp_
              obtain ⟨b0_, b1_, b2_, b3_, b4_, _⟩ := hb_
              refine WL.val1 (R_move (v := .pointer (some ⟨w2.heap.size, 0, none⟩)) b1_) ?_
              refine WL.nil ?_
              exact ⟨rfl, _, _, rfl, (Hp.le_refl _), rfl, hS199⟩
            · intro r_ w204 h205 hl206 hS203 hb_ hp_
              obtain ⟨b0_, b1_, b2_, b3_, b4_, _⟩ := hb_
              refine WL.val1 (R_move (v := .int .i64 (1)) b2_) ?_
              refine WL.nil ?_
              exact ⟨rfl, _, _, rfl, (Hp.le_refl _), rfl, hS203⟩
            · intro r_ w208 h209 hl210 hS207 hb_ hp_
              obtain ⟨b0_, b1_, b2_, b3_, b4_, _⟩ := hb_
              obtain ⟨p0_, _⟩ := hp_
              have p0_ : r_ 41 = .pointer (some ⟨w2.heap.size, 0, none⟩) := p0_
              refine WL.val1 (R_nilCheck p0_) ?_
              refine WL.nil ?_
              exact ⟨rfl, _, _, rfl, (Hp.le_refl _), rfl, hS207⟩
            · intro r_ w212 h213 hl214 hS211 hb_ hp_
              obtain ⟨b0_, b1_, b2_, b3_, b4_, _⟩ := hb_
              obtain ⟨p0_, _⟩ := hp_
              have p0_ : r_ 43 = .pointer (some ⟨w2.heap.size, 0, none⟩) := p0_
              refine WL.val1 (R_fieldAddr (b := w2.heap.size) (off := 0) (m := 1) p0_ (fun _ => by kernel_rfl)) ?_
              refine WL.nil ?_
              exact ⟨rfl, _, _, rfl, (Hp.le_refl _), rfl, hS211⟩
            · intro r_ w216 h217 hl218 hS215 hb_ hp_
              obtain ⟨b0_, b1_, b2_, b3_, b4_, _⟩ := hb_
              obtain ⟨p0_, p1_, _⟩ := hp_
              have p0_ : r_ 44 = .pointer (some ⟨w2.heap.size, 1, none⟩) := p0_
              have p1_ : r_ 42 = .int .i64 (1) := p1_
              refine WL.val1 (R_indexArr (b := w2.heap.size) (o := 1) (i := 1) (m := 1) p0_ p1_ Tryz.underlying58 (Tryz.sizeOf57 _) rfl (by decide)) ?_
              refine WL.nil ?_
              exact ⟨rfl, _, _, rfl, (Hp.le_refl _), rfl, hS215⟩
            · intro r_ w220 h221 hl222 hS219 hb_ hp_
              obtain ⟨b0_, b1_, b2_, b3_, b4_, _⟩ := hb_
              obtain ⟨p0_, _⟩ := hp_
              have p0_ : r_ 45 = .pointer (some ⟨w2.heap.size, 3, none⟩) := p0_
              refine WL.val1 (R_fieldAddr (b := w2.heap.size) (off := 3) (m := 1) p0_ (fun _ => by kernel_rfl)) ?_
              refine WL.nil ?_
              exact ⟨rfl, _, _, rfl, (Hp.le_refl _), rfl, hS219⟩
            · intro r_ w224 h225 hl226 hS223 hb_ hp_
              obtain ⟨b0_, b1_, b2_, b3_, b4_, _⟩ := hb_
              obtain ⟨p0_, _⟩ := hp_
              have p0_ : r_ 46 = .pointer (some ⟨w2.heap.size, 4, none⟩) := p0_
              refine WL.val1 (R_load (v := .int .i64 (S0.z1)) p0_ (hS223.has (i := 5) rfl) (Tryz.isAgg3 _) rfl) ?_
              refine WL.nil ?_
              exact ⟨rfl, _, _, rfl, (Hp.le_refl _), rfl, hS223⟩
            · intro r_ w228 h229 hl230 hS227 hb_ hf_
              obtain ⟨b0_, b1_, b2_, b3_, b4_, _⟩ := hb_
              have q0_ := AF.get hf_ 0 (d := 40) rfl rfl
              have q7_ := AF.get hf_ 7 (d := 47) rfl rfl
              refine WL.frame [(0, .pointer (some ⟨D_b, 0, none⟩)), (4, .pointer (some ⟨w2.heap.size, 0, none⟩)), (8, .int .i64 (1)), (9, .pointer (some ⟨w141.heap.size, 0, none⟩)), (10, .int .i64 (((i : Nat) : Int))), (40, .int .i64 ((((out).length : Nat) : Int))), (47, .int .i64 (S0.z1))] ⟨b0_, b1_, b2_, b3_, b4_, q0_, q7_, trivial⟩ (fun r_ => ?_)
              refine WL.val1 (R_lss (a := (((out).length : Nat) : Int)) (b := S0.z1) rfl rfl) ?_
              refine WL.nil ?_
              refine then_normal ?_
              refine WC.condP ((((out).length : Nat) : Int) < S0.z1) rfl (fun c2 => ?_) (fun c2 => ?_)
              · skip
                have hlt_ : out.length < T.length := by omega
                have hnx_ := ho.next (i := i) (by rw [← f1]; exact hlt_) hn
                rw [hnw0_] at hnx_
                have hnl_ := congrArg List.length hnx_
                rw [List.length_take] at hnl_
                refine WC.skip ?_
                refine then_normal ?_
                refine WC.seq ?_
                refine WC.block ?_
                refine WC.seq ?_
                refine WC.region ?_
                refine WL.val1 (R_move (v := .pointer (some ⟨D_b, 0, none⟩)) rfl) ?_
                refine WL.val1 (R_move (v := .int .i64 (1)) rfl) ?_
                refine WL.val1 (R_move (v := .pointer (some ⟨D_b, 0, none⟩)) rfl) ?_
                have hS233 := hS227.growMono (i := 0) rfl hl230
                have hS234 := hS233.growMono (i := 4) rfl hl230
                have hS235 := hS234.growMono (i := 6) rfl hl230
                have hS236 : St Γ2 h229 (row (D_b) [.bool (D.is), .int .i64 (D.left), .int .i64 (D.n), .map (some (D_held_b)), .slice (D_pend_a) (D.pend).length (D_pend_c)] 78 :: mpG Mwr (D_held_b) (D.held) (D_held_k) :: grow 80 RWr h229 (D.pend) (D_pend_a) (D_pend_c) :: grow 5 Rby h229 (out) (out_a) (out_c) :: row (w141.heap.size) [p, .slice (out_a) (out).length (out_c)] 88 :: emp :: emp :: emp :: row (w2.heap.size) [.pointer (some ⟨D_b, 0, none⟩), .int .i64 (S0.g0), .int .i64 (S0.z0), .int .i64 (S0.g1), .int .i64 (S0.z1), .slice (none) 0 (0)] 60 :: grow 29 RFile h229 (([] : List File)) (none) (0) :: L2) w228 := (((hS235.front (i := 4) rfl).front (i := 4) rfl).front (i := 4) rfl)
                refine S_callH (vs := [.pointer (some ⟨D_b, 0, none⟩)]) (A := fun hh_ => [row (D_b) [.bool (D.is), .int .i64 (D.left), .int .i64 (D.n), .map (some (D_held_b)), .slice (D_pend_a) (D.pend).length (D_pend_c)] 78, mpG Mwr (D_held_b) (D.held) (D_held_k), grow 80 RWr hh_ (D.pend) (D_pend_a) (D_pend_c)]) (L := grow 5 Rby h229 (out) (out_a) (out_c) :: row (w141.heap.size) [p, .slice (out_a) (out).length (out_c)] 88 :: emp :: emp :: emp :: row (w2.heap.size) [.pointer (some ⟨D_b, 0, none⟩), .int .i64 (S0.g0), .int .i64 (S0.z0), .int .i64 (S0.g1), .int .i64 (S0.z1), .slice (none) 0 (0)] 60 :: grow 29 RFile h229 (([] : List File)) (none) (0) :: L2) hS236 Tryz.call25 rfl (disk_Len (D) (D_b) (D_held_b) (D_held_k) (D_pend_a) (D_pend_c)) trivial ?_
                intro A237 v238 w232 hp239 hS231
                obtain ⟨rfl, rfl⟩ := hp239
                have hS231 : St Γ2 h229 (row (D_b) [.bool (D.is), .int .i64 (D.left), .int .i64 (D.n), .map (some (D_held_b)), .slice (D_pend_a) (D.pend).length (D_pend_c)] 78 :: mpG Mwr (D_held_b) (D.held) (D_held_k) :: grow 80 RWr h229 (D.pend) (D_pend_a) (D_pend_c) :: grow 5 Rby h229 (out) (out_a) (out_c) :: row (w141.heap.size) [p, .slice (out_a) (out).length (out_c)] 88 :: emp :: emp :: emp :: row (w2.heap.size) [.pointer (some ⟨D_b, 0, none⟩), .int .i64 (S0.g0), .int .i64 (S0.z0), .int .i64 (S0.g1), .int .i64 (S0.z1), .slice (none) 0 (0)] 60 :: grow 29 RFile h229 (([] : List File)) (none) (0) :: L2) w232 := hS231
                have hS240 : St Γ2 h229 (grow 5 Rby h229 (out) (out_a) (out_c) :: row (w141.heap.size) [p, .slice (out_a) (out).length (out_c)] 88 :: row (D_b) [.bool (D.is), .int .i64 (D.left), .int .i64 (D.n), .map (some (D_held_b)), .slice (D_pend_a) (D.pend).length (D_pend_c)] 78 :: mpG Mwr (D_held_b) (D.held) (D_held_k) :: grow 80 RWr h229 (D.pend) (D_pend_a) (D_pend_c) :: row (w2.heap.size) [.pointer (some ⟨D_b, 0, none⟩), .int .i64 (S0.g0), .int .i64 (S0.z0), .int .i64 (S0.g1), .int .i64 (S0.z1), .slice (none) 0 (0)] 60 :: grow 29 RFile h229 (([] : List File)) (none) (0) :: L2) w232 := (St.back2 (i := 4) (St.back2 (i := 4) (St.back2 (i := 4) hS231 rfl) rfl) rfl)
                refine S_callP (vs := [.int .i64 (D.n)]) hS240 Tryz.call21 rfl (store_half (D.n) (by first | assumption | omega)) trivial ?_
                intro w242 hS241
                refine WL.val1 (R_mul_i (a := 1) (b := ((D.n - 2) / 2)) rfl rfl (by omega)) ?_
                refine WL.val1 (R_add_i (a := 2) (b := (1 * ((D.n - 2) / 2))) rfl rfl (by omega)) ?_
                refine WL.val1 (R_move (v := .int .i64 (((i : Nat) : Int))) rfl) ?_
                refine WL.val1 (R_add_i (a := (2 + (1 * ((D.n - 2) / 2)))) (b := ((i : Nat) : Int)) rfl rfl (by omega)) ?_
                have hS245 : St Γ2 h229 (row (D_b) [.bool (D.is), .int .i64 (D.left), .int .i64 (D.n), .map (some (D_held_b)), .slice (D_pend_a) (D.pend).length (D_pend_c)] 78 :: mpG Mwr (D_held_b) (D.held) (D_held_k) :: grow 80 RWr h229 (D.pend) (D_pend_a) (D_pend_c) :: grow 5 Rby h229 (out) (out_a) (out_c) :: row (w141.heap.size) [p, .slice (out_a) (out).length (out_c)] 88 :: emp :: emp :: emp :: row (w2.heap.size) [.pointer (some ⟨D_b, 0, none⟩), .int .i64 (S0.g0), .int .i64 (S0.z0), .int .i64 (S0.g1), .int .i64 (S0.z1), .slice (none) 0 (0)] 60 :: grow 29 RFile h229 (([] : List File)) (none) (0) :: L2) w242 := (((hS241.front (i := 4) rfl).front (i := 4) rfl).front (i := 4) rfl)
                refine S_callH (vs := [.pointer (some ⟨D_b, 0, none⟩), .int .i64 (((2 + (1 * ((D.n - 2) / 2))) + ((i : Nat) : Int)))]) (A := fun hh_ => [row (D_b) [.bool (D.is), .int .i64 (D.left), .int .i64 (D.n), .map (some (D_held_b)), .slice (D_pend_a) (D.pend).length (D_pend_c)] 78, mpG Mwr (D_held_b) (D.held) (D_held_k), grow 80 RWr hh_ (D.pend) (D_pend_a) (D_pend_c)]) (L := grow 5 Rby h229 (out) (out_a) (out_c) :: row (w141.heap.size) [p, .slice (out_a) (out).length (out_c)] 88 :: emp :: emp :: emp :: row (w2.heap.size) [.pointer (some ⟨D_b, 0, none⟩), .int .i64 (S0.g0), .int .i64 (S0.z0), .int .i64 (S0.g1), .int .i64 (S0.z1), .slice (none) 0 (0)] 60 :: grow 29 RFile h229 (([] : List File)) (none) (0) :: L2) hS245 Tryz.call38 rfl (disk_Read (D) (D_b) (D_held_b) (D_held_k) (D_pend_a) (D_pend_c) (((2 + (1 * ((D.n - 2) / 2))) + ((i : Nat) : Int))) (by first | assumption | omega)) trivial ?_
                intro A246 v247 w244 hp248 hS243
                obtain ⟨rfl, rfl⟩ := hp248
                have hS243 : St Γ2 h229 (row (D_b) [.bool (D.is), .int .i64 (D.left), .int .i64 (D.n), .map (some (D_held_b)), .slice (D_pend_a) (D.pend).length (D_pend_c)] 78 :: mpG Mwr (D_held_b) (D.held) (D_held_k) :: grow 80 RWr h229 (D.pend) (D_pend_a) (D_pend_c) :: grow 5 Rby h229 (out) (out_a) (out_c) :: row (w141.heap.size) [p, .slice (out_a) (out).length (out_c)] 88 :: emp :: emp :: emp :: row (w2.heap.size) [.pointer (some ⟨D_b, 0, none⟩), .int .i64 (S0.g0), .int .i64 (S0.z0), .int .i64 (S0.g1), .int .i64 (S0.z1), .slice (none) 0 (0)] 60 :: grow 29 RFile h229 (([] : List File)) (none) (0) :: L2) w244 := hS243
                have hS249 : St Γ2 h229 (grow 5 Rby h229 (out) (out_a) (out_c) :: row (w141.heap.size) [p, .slice (out_a) (out).length (out_c)] 88 :: row (D_b) [.bool (D.is), .int .i64 (D.left), .int .i64 (D.n), .map (some (D_held_b)), .slice (D_pend_a) (D.pend).length (D_pend_c)] 78 :: mpG Mwr (D_held_b) (D.held) (D_held_k) :: grow 80 RWr h229 (D.pend) (D_pend_a) (D_pend_c) :: row (w2.heap.size) [.pointer (some ⟨D_b, 0, none⟩), .int .i64 (S0.g0), .int .i64 (S0.z0), .int .i64 (S0.g1), .int .i64 (S0.z1), .slice (none) 0 (0)] 60 :: grow 29 RFile h229 (([] : List File)) (none) (0) :: L2) w244 := (St.back2 (i := 4) (St.back2 (i := 4) (St.back2 (i := 4) hS243 rfl) rfl) rfl)
                refine WL.val1 (R_move (v := .tuple #[.string (B ((readD D (((2 + (1 * ((D.n - 2) / 2))) + ((i : Nat) : Int)))).1)), .int .i64 ((readD D (((2 + (1 * ((D.n - 2) / 2))) + ((i : Nat) : Int)))).2)]) rfl) ?_
                refine WL.val1 (R_extract (vs := ([.string (B ((readD D (((2 + (1 * ((D.n - 2) / 2))) + ((i : Nat) : Int)))).1)), .int .i64 ((readD D (((2 + (1 * ((D.n - 2) / 2))) + ((i : Nat) : Int)))).2)] : List Value).toArray) (v := .string (B ((readD D (((2 + (1 * ((D.n - 2) / 2))) + ((i : Nat) : Int)))).1))) rfl rfl) ?_
                refine WL.val1 (R_extract (vs := ([.string (B ((readD D (((2 + (1 * ((D.n - 2) / 2))) + ((i : Nat) : Int)))).1)), .int .i64 ((readD D (((2 + (1 * ((D.n - 2) / 2))) + ((i : Nat) : Int)))).2)] : List Value).toArray) (v := .int .i64 ((readD D (((2 + (1 * ((D.n - 2) / 2))) + ((i : Nat) : Int)))).2)) rfl rfl) ?_
                refine WL.val1 (R_assign (v := .string (B ((readD D (((2 + (1 * ((D.n - 2) / 2))) + ((i : Nat) : Int)))).1))) rfl) ?_
                refine WL.val1 (R_assign (v := .int .i64 ((readD D (((2 + (1 * ((D.n - 2) / 2))) + ((i : Nat) : Int)))).2)) rfl) ?_
                refine WL.nil ?_
                refine then_normal ?_
                refine WC.region ?_
                refine WL.val1 (R_move (v := .string (B ((readD D (((2 + (1 * ((D.n - 2) / 2))) + ((i : Nat) : Int)))).1))) rfl) ?_
                have hS252 : St Γ2 h229 (grow 5 Rby h229 (out) (out_a) (out_c) :: emp :: row (w141.heap.size) [p, .slice (out_a) (out).length (out_c)] 88 :: row (D_b) [.bool (D.is), .int .i64 (D.left), .int .i64 (D.n), .map (some (D_held_b)), .slice (D_pend_a) (D.pend).length (D_pend_c)] 78 :: mpG Mwr (D_held_b) (D.held) (D_held_k) :: grow 80 RWr h229 (D.pend) (D_pend_a) (D_pend_c) :: row (w2.heap.size) [.pointer (some ⟨D_b, 0, none⟩), .int .i64 (S0.g0), .int .i64 (S0.z0), .int .i64 (S0.g1), .int .i64 (S0.z1), .slice (none) 0 (0)] 60 :: grow 29 RFile h229 (([] : List File)) (none) (0) :: L2) w244 := hS249.front (i := 0) rfl
                have hS253 : St Γ2 h229 (row (w141.heap.size) [p, .slice (out_a) (out).length (out_c)] 88 :: grow 5 Rby h229 (out) (out_a) (out_c) :: emp :: emp :: row (D_b) [.bool (D.is), .int .i64 (D.left), .int .i64 (D.n), .map (some (D_held_b)), .slice (D_pend_a) (D.pend).length (D_pend_c)] 78 :: mpG Mwr (D_held_b) (D.held) (D_held_k) :: grow 80 RWr h229 (D.pend) (D_pend_a) (D_pend_c) :: row (w2.heap.size) [.pointer (some ⟨D_b, 0, none⟩), .int .i64 (S0.g0), .int .i64 (S0.z0), .int .i64 (S0.g1), .int .i64 (S0.z1), .slice (none) 0 (0)] 60 :: grow 29 RFile h229 (([] : List File)) (none) (0) :: L2) w244 := hS252.front (i := 2) rfl
                refine S_callL (vs := [.pointer (some ⟨w141.heap.size, 0, none⟩), .string (B ((readD D (((2 + (1 * ((D.n - 2) / 2))) + ((i : Nat) : Int)))).1))]) (A := fun hh_ => [row (w141.heap.size) [p, .slice (out_a) (out).length (out_c)] 88, grow 5 Rby hh_ (out) (out_a) (out_c)]) (L := emp :: emp :: row (D_b) [.bool (D.is), .int .i64 (D.left), .int .i64 (D.n), .map (some (D_held_b)), .slice (D_pend_a) (D.pend).length (D_pend_c)] 78 :: mpG Mwr (D_held_b) (D.held) (D_held_k) :: grow 80 RWr h229 (D.pend) (D_pend_a) (D_pend_c) :: row (w2.heap.size) [.pointer (some ⟨D_b, 0, none⟩), .int .i64 (S0.g0), .int .i64 (S0.z0), .int .i64 (S0.g1), .int .i64 (S0.z1), .slice (none) 0 (0)] 60 :: grow 29 RFile h229 (([] : List File)) (none) (0) :: L2) hS253 Tryz.call41 rfl (bld_Write (w141.heap.size) (p) (out) (out_a) (out_c) ((readD D (((2 + (1 * ((D.n - 2) / 2))) + ((i : Nat) : Int)))).1) (by first | assumption | omega) (by first | assumption | omega)) trivial ?_
                intro h254 A256 v257 w251 hl255 hp258 hS250
                obtain ⟨a2259, c2260, rfl, rfl⟩ := hp258
                have hS250 : St Γ2 h254 (row (w141.heap.size) [.pointer (some ⟨w141.heap.size, 0, none⟩), .slice (a2259) ((out ++ ((readD D (((2 + (1 * ((D.n - 2) / 2))) + ((i : Nat) : Int)))).1))).length (c2260)] 88 :: grow 5 Rby h254 ((out ++ ((readD D (((2 + (1 * ((D.n - 2) / 2))) + ((i : Nat) : Int)))).1))) (a2259) (c2260) :: emp :: emp :: row (D_b) [.bool (D.is), .int .i64 (D.left), .int .i64 (D.n), .map (some (D_held_b)), .slice (D_pend_a) (D.pend).length (D_pend_c)] 78 :: mpG Mwr (D_held_b) (D.held) (D_held_k) :: grow 80 RWr h229 (D.pend) (D_pend_a) (D_pend_c) :: row (w2.heap.size) [.pointer (some ⟨D_b, 0, none⟩), .int .i64 (S0.g0), .int .i64 (S0.z0), .int .i64 (S0.g1), .int .i64 (S0.z1), .slice (none) 0 (0)] 60 :: grow 29 RFile h229 (([] : List File)) (none) (0) :: L2) w251 := hS250
                have hS261 : St Γ2 h254 (grow 5 Rby h254 ((out ++ ((readD D (((2 + (1 * ((D.n - 2) / 2))) + ((i : Nat) : Int)))).1))) (a2259) (c2260) :: emp :: row (w141.heap.size) [.pointer (some ⟨w141.heap.size, 0, none⟩), .slice (a2259) ((out ++ ((readD D (((2 + (1 * ((D.n - 2) / 2))) + ((i : Nat) : Int)))).1))).length (c2260)] 88 :: row (D_b) [.bool (D.is), .int .i64 (D.left), .int .i64 (D.n), .map (some (D_held_b)), .slice (D_pend_a) (D.pend).length (D_pend_c)] 78 :: mpG Mwr (D_held_b) (D.held) (D_held_k) :: grow 80 RWr h229 (D.pend) (D_pend_a) (D_pend_c) :: row (w2.heap.size) [.pointer (some ⟨D_b, 0, none⟩), .int .i64 (S0.g0), .int .i64 (S0.z0), .int .i64 (S0.g1), .int .i64 (S0.z1), .slice (none) 0 (0)] 60 :: grow 29 RFile h229 (([] : List File)) (none) (0) :: L2) w251 := St.back (L := grow 5 Rby h254 ((out ++ ((readD D (((2 + (1 * ((D.n - 2) / 2))) + ((i : Nat) : Int)))).1))) (a2259) (c2260) :: emp :: row (w141.heap.size) [.pointer (some ⟨w141.heap.size, 0, none⟩), .slice (a2259) ((out ++ ((readD D (((2 + (1 * ((D.n - 2) / 2))) + ((i : Nat) : Int)))).1))).length (c2260)] 88 :: row (D_b) [.bool (D.is), .int .i64 (D.left), .int .i64 (D.n), .map (some (D_held_b)), .slice (D_pend_a) (D.pend).length (D_pend_c)] 78 :: mpG Mwr (D_held_b) (D.held) (D_held_k) :: grow 80 RWr h229 (D.pend) (D_pend_a) (D_pend_c) :: row (w2.heap.size) [.pointer (some ⟨D_b, 0, none⟩), .int .i64 (S0.g0), .int .i64 (S0.z0), .int .i64 (S0.g1), .int .i64 (S0.z1), .slice (none) 0 (0)] 60 :: grow 29 RFile h229 (([] : List File)) (none) (0) :: L2) (i := 2) hS250 rfl
                have hS262 : St Γ2 h254 (grow 5 Rby h254 ((out ++ ((readD D (((2 + (1 * ((D.n - 2) / 2))) + ((i : Nat) : Int)))).1))) (a2259) (c2260) :: row (w141.heap.size) [.pointer (some ⟨w141.heap.size, 0, none⟩), .slice (a2259) ((out ++ ((readD D (((2 + (1 * ((D.n - 2) / 2))) + ((i : Nat) : Int)))).1))).length (c2260)] 88 :: row (D_b) [.bool (D.is), .int .i64 (D.left), .int .i64 (D.n), .map (some (D_held_b)), .slice (D_pend_a) (D.pend).length (D_pend_c)] 78 :: mpG Mwr (D_held_b) (D.held) (D_held_k) :: grow 80 RWr h229 (D.pend) (D_pend_a) (D_pend_c) :: row (w2.heap.size) [.pointer (some ⟨D_b, 0, none⟩), .int .i64 (S0.g0), .int .i64 (S0.z0), .int .i64 (S0.g1), .int .i64 (S0.z1), .slice (none) 0 (0)] 60 :: grow 29 RFile h229 (([] : List File)) (none) (0) :: L2) w251 := St.back (L := grow 5 Rby h254 ((out ++ ((readD D (((2 + (1 * ((D.n - 2) / 2))) + ((i : Nat) : Int)))).1))) (a2259) (c2260) :: row (w141.heap.size) [.pointer (some ⟨w141.heap.size, 0, none⟩), .slice (a2259) ((out ++ ((readD D (((2 + (1 * ((D.n - 2) / 2))) + ((i : Nat) : Int)))).1))).length (c2260)] 88 :: row (D_b) [.bool (D.is), .int .i64 (D.left), .int .i64 (D.n), .map (some (D_held_b)), .slice (D_pend_a) (D.pend).length (D_pend_c)] 78 :: mpG Mwr (D_held_b) (D.held) (D_held_k) :: grow 80 RWr h229 (D.pend) (D_pend_a) (D_pend_c) :: row (w2.heap.size) [.pointer (some ⟨D_b, 0, none⟩), .int .i64 (S0.g0), .int .i64 (S0.z0), .int .i64 (S0.g1), .int .i64 (S0.z1), .slice (none) 0 (0)] 60 :: grow 29 RFile h229 (([] : List File)) (none) (0) :: L2) (i := 0) hS261 rfl
                refine WL.nil ?_
                refine block_normal ?_
                refine then_normal ?_
                refine WC.region ?_
                refine WL.val1 (R_move (v := .int .i64 (((i : Nat) : Int))) rfl) ?_
                refine WL.val1 (R_add_i (a := ((i : Nat) : Int)) (b := 1) rfl rfl (by omega)) ?_
                refine WL.val1 (R_assign (v := .int .i64 ((((i : Nat) : Int) + 1))) rfl) ?_
                refine WL.nil ?_
                refine then_normal ?_
                have hS263 := hS262.growMono (i := 4) rfl hl255
                have hS264 := hS263.growMono (i := 6) rfl hl255
                exact ⟨(i + 1, (out ++ ((readD D (((2 + (1 * ((D.n - 2) / 2))) + ((i : Nat) : Int)))).1)), a2259, c2260, .pointer (some ⟨w141.heap.size, 0, none⟩)), ⟨rfl, rfl, rfl, rfl, (by first | rfl | (apply congrArg (Value.int .i64); omega) | simp), trivial⟩, ⟨h254, ((hl157.trans hl230).trans hl255), hS264, (by (try dsimp only); rw [hnx_]; (try rw [f1]); exact take64), (by (try dsimp only); rw [f1, List.length_take] at hlt_; omega), (by (try dsimp only); exact .inr rfl)⟩, (by (try simp only []); rw [List.length_append, hnx_, List.length_take, List.length_drop]; rw [f1, List.length_take] at hlt_ ⊢; omega)⟩
              · skip
                refine WC.exit ?_
                refine then_exit ?_
                refine then_exit ?_
                refine block_exit ?_
                refine then_normal ?_
                refine WC.seq ?_
                refine WC.region ?_
                have hS265 := hS227.growMono (i := 0) rfl hl230
                have hS266 := hS265.growMono (i := 4) rfl hl230
                have hS267 := hS266.growMono (i := 6) rfl hl230
                have hS268 : St Γ2 h229 (row (w141.heap.size) [p, .slice (out_a) (out).length (out_c)] 88 :: grow 5 Rby h229 (out) (out_a) (out_c) :: row (D_b) [.bool (D.is), .int .i64 (D.left), .int .i64 (D.n), .map (some (D_held_b)), .slice (D_pend_a) (D.pend).length (D_pend_c)] 78 :: mpG Mwr (D_held_b) (D.held) (D_held_k) :: grow 80 RWr h229 (D.pend) (D_pend_a) (D_pend_c) :: row (w2.heap.size) [.pointer (some ⟨D_b, 0, none⟩), .int .i64 (S0.g0), .int .i64 (S0.z0), .int .i64 (S0.g1), .int .i64 (S0.z1), .slice (none) 0 (0)] 60 :: grow 29 RFile h229 (([] : List File)) (none) (0) :: L2) w228 := (((((((hS267.move (i := 6) rfl).move (i := 6) rfl).move (i := 6) rfl).move (i := 6) rfl).move (i := 6) rfl).move (i := 5) rfl).move (i := 6) rfl)
                subst hL2_
                refine S_call (vs := [.pointer (some ⟨w141.heap.size, 0, none⟩)]) Tryz.call43 rfl ((bld_StringA hM_ (Dms.cons (Dm_row (by decide)) (Dms.cons Dm_map (Dms.cons (Dm_grow (by decide)) (Dms.cons (Dm_row (by decide)) (Dms.cons (Dm_grow (by decide)) Dms.nil))))) hMl2_ hin2_ (hl157.trans hl230) hbs_ hp hS268).mono ?_)
                rintro v269 w270 ⟨rfl, hS271⟩
                have hS272 : St Γ h135 (row (D_b) [.bool (D.is), .int .i64 (D.left), .int .i64 (D.n), .map (some (D_held_b)), .slice (D_pend_a) (D.pend).length (D_pend_c)] 78 :: mpG Mwr (D_held_b) (D.held) (D_held_k) :: grow 80 RWr h135 (D.pend) (D_pend_a) (D_pend_c) :: row (w2.heap.size) [.pointer (some ⟨D_b, 0, none⟩), .int .i64 (S0.g0), .int .i64 (S0.z0), .int .i64 (S0.g1), .int .i64 (S0.z1), .slice (none) 0 (0)] 60 :: grow 29 RFile h135 (([] : List File)) (none) (0) :: L) w270 := back_ _ _ ((hS271.growFree (i := 2) h135 RWr_free rfl).growFree (i := 4) h135 RFile_free rfl)
                refine S_callH (vs := [.string (B (out))]) (A := fun hh_ => []) (L := row (D_b) [.bool (D.is), .int .i64 (D.left), .int .i64 (D.n), .map (some (D_held_b)), .slice (D_pend_a) (D.pend).length (D_pend_c)] 78 :: mpG Mwr (D_held_b) (D.held) (D_held_k) :: grow 80 RWr h135 (D.pend) (D_pend_a) (D_pend_c) :: row (w2.heap.size) [.pointer (some ⟨D_b, 0, none⟩), .int .i64 (S0.g0), .int .i64 (S0.z0), .int .i64 (S0.g1), .int .i64 (S0.z1), .slice (none) 0 (0)] 60 :: grow 29 RFile h135 (([] : List File)) (none) (0) :: L) hS272 Tryz.call42 rfl (wire_Parse (out) (by first | assumption | omega)) trivial ?_
                intro A275 v276 w274 hp277 hS273
                obtain ⟨r_a278, r_c279, rfl, rfl⟩ := hp277
                have hS273 : St Γ h135 (grow 29 RFile h135 ((parseS out).1) (r_a278) (r_c279) :: row (D_b) [.bool (D.is), .int .i64 (D.left), .int .i64 (D.n), .map (some (D_held_b)), .slice (D_pend_a) (D.pend).length (D_pend_c)] 78 :: mpG Mwr (D_held_b) (D.held) (D_held_k) :: grow 80 RWr h135 (D.pend) (D_pend_a) (D_pend_c) :: row (w2.heap.size) [.pointer (some ⟨D_b, 0, none⟩), .int .i64 (S0.g0), .int .i64 (S0.z0), .int .i64 (S0.g1), .int .i64 (S0.z1), .slice (none) 0 (0)] 60 :: grow 29 RFile h135 (([] : List File)) (none) (0) :: L) w274 := hS273
                refine WL.val1 (R_move (v := .tuple #[.slice (r_a278) ((parseS out).1).length (r_c279), .int .i64 ((parseS out).2)]) rfl) ?_
                refine WL.val1 (R_extract (vs := ([.slice (r_a278) ((parseS out).1).length (r_c279), .int .i64 ((parseS out).2)] : List Value).toArray) (v := .slice (r_a278) ((parseS out).1).length (r_c279)) rfl rfl) ?_
                refine WL.val1 (R_extract (vs := ([.slice (r_a278) ((parseS out).1).length (r_c279), .int .i64 ((parseS out).2)] : List Value).toArray) (v := .int .i64 ((parseS out).2)) rfl rfl) ?_
                refine WL.val1 (R_assign (v := .slice (r_a278) ((parseS out).1).length (r_c279)) rfl) ?_
                refine WL.val1 (R_assign (v := .int .i64 ((parseS out).2)) rfl) ?_
                refine WL.nil ?_
                refine then_normal ?_
                refine WC.seq ?_
                refine WC.region ?_
                refine WL.val1 (R_move (v := .pointer (some ⟨w2.heap.size, 0, none⟩)) rfl) ?_
                refine WL.val1 (R_move (v := .slice (r_a278) ((parseS out).1).length (r_c279)) rfl) ?_
                refine WL.val1 (R_nilCheck rfl) ?_
                refine WL.val1 (R_fieldAddr (b := w2.heap.size) (off := 0) (m := 5) rfl (fun _ => by kernel_rfl)) ?_
                refine S_store (i := 4) (b := w2.heap.size) (l := [.pointer (some ⟨D_b, 0, none⟩), .int .i64 (S0.g0), .int .i64 (S0.z0), .int .i64 (S0.g1), .int .i64 (S0.z1), .slice (none) 0 (0)]) (l' := [.pointer (some ⟨D_b, 0, none⟩), .int .i64 (S0.g0), .int .i64 (S0.z0), .int .i64 (S0.g1), .int .i64 (S0.z1), .slice (r_a278) ((parseS out).1).length (r_c279)]) (vs := [.slice (r_a278) ((parseS out).1).length (r_c279)]) (v := .slice (r_a278) ((parseS out).1).length (r_c279)) hS273 rfl rfl rfl Tryz.sizeOf30 rfl rfl rfl (Nat.le_of_ble_eq_true rfl) rfl rfl ?_
                intro w281 hS280
                refine WL.nil ?_
                refine then_normal ?_
                refine WC.seq ?_
                refine WC.region ?_
                refine WL.val1 (R_move (v := .pointer (some ⟨w2.heap.size, 0, none⟩)) rfl) ?_
                refine WL.val1 (R_assign (v := .pointer (some ⟨w2.heap.size, 0, none⟩)) rfl) ?_
                refine WL.val1 (R_assign (v := .int .i64 (0)) rfl) ?_
                refine WL.nil ?_
                refine then_normal ?_
                refine WC.ret ?_
                refine top_ret (.tuple #[.pointer (some ⟨w2.heap.size, 0, none⟩), .int .i64 (0)]) (gives2 rfl rfl rfl) ?_
                have e0_ : out = T := by
                  have hx_ := congrArg List.length f1
                  rw [List.length_take] at hx_
                  rw [f1]; apply List.take_of_length_le; omega
                have e_ : (parseS out).1 = S0.files := by rw [e0_]; exact ho.files
                have hS282 : St Γ h135 (row (D_b) [.bool (D.is), .int .i64 (D.left), .int .i64 (D.n), .map (some (D_held_b)), .slice (D_pend_a) (D.pend).length (D_pend_c)] 78 :: mpG Mwr (D_held_b) (D.held) (D_held_k) :: grow 80 RWr h135 (D.pend) (D_pend_a) (D_pend_c) :: row (w2.heap.size) [.pointer (some ⟨D_b, 0, none⟩), .int .i64 (S0.g0), .int .i64 (S0.z0), .int .i64 (S0.g1), .int .i64 (S0.z1), .slice (r_a278) ((parseS out).1).length (r_c279)] 60 :: grow 29 RFile h135 ((parseS out).1) (r_a278) (r_c279) :: L) w281 := ((((((hS280.move (i := 0) rfl).move (i := 4) rfl).move (i := 4) rfl).move (i := 4) rfl).move (i := 4) rfl).remove 5)
                exact ⟨[row (D_b) [.bool (D.is), .int .i64 (D.left), .int .i64 (D.n), .map (some (D_held_b)), .slice (D_pend_a) (D.pend).length (D_pend_c)] 78, mpG Mwr (D_held_b) (D.held) (D_held_k), grow 80 RWr h (D.pend) (D_pend_a) (D_pend_c), row (w2.heap.size) [.pointer (some ⟨D_b, 0, none⟩), .int .i64 (S0.g0), .int .i64 (S0.z0), .int .i64 (S0.g1), .int .i64 (S0.z1), .slice (r_a278) ((parseS out).1).length (r_c279)] 60, grow 29 RFile h ((parseS out).1) (r_a278) (r_c279)], ⟨w2.heap.size, r_a278, r_c279, (by first | rfl | (rw [e_]; done) | (rw [e_]; rfl) | (simp; done)), (by first | rfl | (rw [e_]; done) | (rw [e_]; rfl))⟩, (((hS282.growFree (i := 2) h RWr_free rfl).growFree (i := 4) h RFile_free rfl).weaken_h (hl70.trans hl136))⟩
        · skip
          have hnw_ : ∀ f : List File, nowS ⟨S0.g0, S0.z0, S0.g1, S0.z1, f⟩ = 0 := fun f => if_neg hnow_
          have hnw0_ : nowS S0 = 0 := if_neg hnow_
          have hlen_ := ho.len
          rw [if_neg hnow_] at hlen_
          refine WC.region ?_
          refine WL.val1 (R_move (v := .pointer (some ⟨w2.heap.size, 0, none⟩)) rfl) ?_
          have hS283 := hS137.growNil 29 RFile h135
          have hS286 := hS283.growMono (i := 4) rfl hl136
          have hS287 : St Γ h135 (row (w2.heap.size) [.pointer (some ⟨D_b, 0, none⟩), .int .i64 (S0.g0), .int .i64 (S0.z0), .int .i64 (S0.g1), .int .i64 (S0.z1), .slice (none) 0 (0)] 60 :: grow 29 RFile h135 (([] : List File)) (none) (0) :: row (D_b) [.bool (D.is), .int .i64 (D.left), .int .i64 (D.n), .map (some (D_held_b)), .slice (D_pend_a) (D.pend).length (D_pend_c)] 78 :: mpG Mwr (D_held_b) (D.held) (D_held_k) :: grow 80 RWr h135 (D.pend) (D_pend_a) (D_pend_c) :: emp :: emp :: emp :: emp :: emp :: L) w138 := (((((hS286.front (i := 4) rfl).front (i := 4) rfl).front (i := 4) rfl).front (i := 3) rfl).front (i := 5) rfl)
          refine S_callH (vs := [.pointer (some ⟨w2.heap.size, 0, none⟩)]) (A := fun hh_ => [row (w2.heap.size) [.pointer (some ⟨D_b, 0, none⟩), .int .i64 (S0.g0), .int .i64 (S0.z0), .int .i64 (S0.g1), .int .i64 (S0.z1), .slice (none) 0 (0)] 60, grow 29 RFile hh_ (([] : List File)) (none) (0), row (D_b) [.bool (D.is), .int .i64 (D.left), .int .i64 (D.n), .map (some (D_held_b)), .slice (D_pend_a) (D.pend).length (D_pend_c)] 78, mpG Mwr (D_held_b) (D.held) (D_held_k), grow 80 RWr hh_ (D.pend) (D_pend_a) (D_pend_c)]) (L := emp :: emp :: emp :: emp :: emp :: L) hS287 Tryz.call27 rfl (by have k_ := (store_now ({ g0 := S0.g0, z0 := S0.z0, g1 := S0.g1, z1 := S0.z1, files := ([] : List File) } : Sto) (w2.heap.size) (none) (0) (D) (D_b) (D_held_b) (D_held_k) (D_pend_a) (D_pend_c)); rw [hnw_] at k_; exact k_) (by exact trivial) ?_
          intro A288 v289 w285 hp290 hS284
          obtain ⟨rfl, rfl⟩ := hp290
          have hS284 : St Γ h135 (row (w2.heap.size) [.pointer (some ⟨D_b, 0, none⟩), .int .i64 (S0.g0), .int .i64 (S0.z0), .int .i64 (S0.g1), .int .i64 (S0.z1), .slice (none) 0 (0)] 60 :: grow 29 RFile h135 (([] : List File)) (none) (0) :: row (D_b) [.bool (D.is), .int .i64 (D.left), .int .i64 (D.n), .map (some (D_held_b)), .slice (D_pend_a) (D.pend).length (D_pend_c)] 78 :: mpG Mwr (D_held_b) (D.held) (D_held_k) :: grow 80 RWr h135 (D.pend) (D_pend_a) (D_pend_c) :: emp :: emp :: emp :: emp :: emp :: L) w285 := hS284
          have hS291 : St Γ h135 (grow 29 RFile h135 (([] : List File)) (none) (0) :: row (w2.heap.size) [.pointer (some ⟨D_b, 0, none⟩), .int .i64 (S0.g0), .int .i64 (S0.z0), .int .i64 (S0.g1), .int .i64 (S0.z1), .slice (none) 0 (0)] 60 :: row (D_b) [.bool (D.is), .int .i64 (D.left), .int .i64 (D.n), .map (some (D_held_b)), .slice (D_pend_a) (D.pend).length (D_pend_c)] 78 :: mpG Mwr (D_held_b) (D.held) (D_held_k) :: grow 80 RWr h135 (D.pend) (D_pend_a) (D_pend_c) :: L) w285 := (St.back2 (i := 4) (St.back2 (i := 4) (St.back2 (i := 4) (St.back2 (i := 3) (St.back2 (i := 5) hS284 rfl) rfl) rfl) rfl) rfl)
          refine WL.val1 (R_assign (v := .int .i64 (0)) rfl) ?_
          refine WL.nil ?_
          refine then_normal ?_
          refine WC.seq ?_
          have hS292 : St Γ h135 (row (D_b) [.bool (D.is), .int .i64 (D.left), .int .i64 (D.n), .map (some (D_held_b)), .slice (D_pend_a) (D.pend).length (D_pend_c)] 78 :: mpG Mwr (D_held_b) (D.held) (D_held_k) :: grow 80 RWr h135 (D.pend) (D_pend_a) (D_pend_c) :: row (w2.heap.size) [.pointer (some ⟨D_b, 0, none⟩), .int .i64 (S0.g0), .int .i64 (S0.z0), .int .i64 (S0.g1), .int .i64 (S0.z1), .slice (none) 0 (0)] 60 :: grow 29 RFile h135 (([] : List File)) (none) (0) :: L) w285 := (((((hS291.move (i := 0) rfl).move (i := 1) rfl).move (i := 4) rfl).move (i := 4) rfl).move (i := 4) rfl)
          obtain ⟨Γ2, g0_, hwe_, hg0_, hM0_, hMl_, hin_, hS293, back_⟩ := St.sub (A := [row (D_b) [.bool (D.is), .int .i64 (D.left), .int .i64 (D.n), .map (some (D_held_b)), .slice (D_pend_a) (D.pend).length (D_pend_c)] 78, mpG Mwr (D_held_b) (D.held) (D_held_k), grow 80 RWr h135 (D.pend) (D_pend_a) (D_pend_c), row (w2.heap.size) [.pointer (some ⟨D_b, 0, none⟩), .int .i64 (S0.g0), .int .i64 (S0.z0), .int .i64 (S0.g1), .int .i64 (S0.z1), .slice (none) 0 (0)] 60, grow 29 RFile h135 (([] : List File)) (none) (0)]) (L0 := L) hS292
          have hM_ := fun b_ => (hM0_ b_).trans (((Dms.cons (Dm_row (by decide)) (Dms.cons Dm_map (Dms.cons (Dm_grow (by decide)) (Dms.cons (Dm_row (by decide)) (Dms.cons (Dm_grow (by decide)) Dms.nil))))) g0_ hg0_).1 b_)
          have hMl2_ : ∀ b, Γ2.M b → b < Γ2.we.heap.size := by rw [hwe_]; exact hMl_
          have hin2_ : In h135 Γ2.we := by rw [hwe_]; exact hin_
          have hbs_ : Γ2.we.heap.size ≤ w285.heap.size := by rw [hwe_]; exact Nat.le_refl _
          obtain ⟨L2, hL2_⟩ : ∃ L2 : List HProp, L2 = [] := ⟨_, rfl⟩
          have hS294 : St Γ2 h135 (row (D_b) [.bool (D.is), .int .i64 (D.left), .int .i64 (D.n), .map (some (D_held_b)), .slice (D_pend_a) (D.pend).length (D_pend_c)] 78 :: mpG Mwr (D_held_b) (D.held) (D_held_k) :: grow 80 RWr h135 (D.pend) (D_pend_a) (D_pend_c) :: row (w2.heap.size) [.pointer (some ⟨D_b, 0, none⟩), .int .i64 (S0.g0), .int .i64 (S0.z0), .int .i64 (S0.g1), .int .i64 (S0.z1), .slice (none) 0 (0)] 60 :: grow 29 RFile h135 (([] : List File)) (none) (0) :: L2) w285 := by rw [hL2_]; exact hS293
          refine WC.region ?_
          refine S_alloc hS294 Tryz.zeroValue88 ?_
          intro w296 hS295
          refine WL.nil ?_
          refine then_normal ?_
          refine WC.seq ?_
          refine WC.seq ?_
          refine WC.region ?_
          refine WL.val1 (R_assign (v := .int .i64 (0)) rfl) ?_
          refine WL.nil ?_
          refine then_normal ?_
          refine WC.block ?_
          have hS297 := hS295.growNil 5 Rby h135
          refine WC.loopL (σ := Nat × (List UInt8) × (Option Addr) × Nat × Value)
            (fun (q_ : Nat × (List UInt8) × (Option Addr) × Nat × Value) => (fun (i : Nat) (out : List UInt8) (out_a : Option Addr) (out_c : Nat) (p : Value) => [(0, .pointer (some ⟨D_b, 0, none⟩)), (4, .pointer (some ⟨w2.heap.size, 0, none⟩)), (8, .int .i64 (0)), (9, .pointer (some ⟨w285.heap.size, 0, none⟩)), (10, .int .i64 (((i : Nat) : Int)))]) (q_.1) (q_.2.1) (q_.2.2.1) (q_.2.2.2.1) (q_.2.2.2.2))
            (fun (q_ : Nat × (List UInt8) × (Option Addr) × Nat × Value) (w_ : World) => (fun (i : Nat) (out : List UInt8) (out_a : Option Addr) (out_c : Nat) (p : Value) => ∃ h300 : Hp, h135.le h300 ∧ St Γ2 h300 (grow 5 Rby h300 (out) (out_a) (out_c) :: row (w285.heap.size) [p, .slice (out_a) (out).length (out_c)] 88 :: row (D_b) [.bool (D.is), .int .i64 (D.left), .int .i64 (D.n), .map (some (D_held_b)), .slice (D_pend_a) (D.pend).length (D_pend_c)] 78 :: mpG Mwr (D_held_b) (D.held) (D_held_k) :: grow 80 RWr h300 (D.pend) (D_pend_a) (D_pend_c) :: row (w2.heap.size) [.pointer (some ⟨D_b, 0, none⟩), .int .i64 (S0.g0), .int .i64 (S0.z0), .int .i64 (S0.g1), .int .i64 (S0.z1), .slice (none) 0 (0)] 60 :: grow 29 RFile h300 (([] : List File)) (none) (0) :: L2) w_ ∧ (out = T.take (64 * i)) ∧ (i ≤ 100000) ∧ (p = .pointer none ∨ p = .pointer (some ⟨w285.heap.size, 0, none⟩))) (q_.1) (q_.2.1) (q_.2.2.1) (q_.2.2.2.1) (q_.2.2.2.2))
            (fun (q_ : Nat × (List UInt8) × (Option Addr) × Nat × Value) => (fun (i : Nat) (out : List UInt8) (out_a : Option Addr) (out_c : Nat) (p : Value) => T.length - out.length) (q_.1) (q_.2.1) (q_.2.2.1) (q_.2.2.2.1) (q_.2.2.2.2)) (0, ([] : List UInt8), none, 0, .pointer none) ?_ ?_ ?_
          · exact ⟨rfl, rfl, rfl, rfl, (by first | rfl | (apply congrArg (Value.int .i64); omega) | simp), trivial⟩
          · exact ⟨h135, Hp.le_refl _, hS297, (by rfl), (by first | assumption | omega | simp), (by exact .inl rfl)⟩
          · rintro ⟨i, out, out_a, out_c, p⟩ r302 w299 ⟨h300, hl301, hS298, f1, f2, hp⟩
            try dsimp only at f1 f2 hp
            have hol_ : out.length ≤ T.length := by rw [f1, List.length_take]; omega
            refine WC.seq ?_
            refine WC.seq ?_
            refine WC.draw 8 [(0, .pointer (some ⟨D_b, 0, none⟩)), (4, .pointer (some ⟨w2.heap.size, 0, none⟩)), (8, .int .i64 (0)), (9, .pointer (some ⟨w285.heap.size, 0, none⟩)), (10, .int .i64 (((i : Nat) : Int)))] [fun _ v => v = .int .i64 ((((out).length : Nat) : Int)), fun _ v => v = .pointer (some ⟨w2.heap.size, 0, none⟩), fun _ v => v = .int .i64 (0), fun _ v => v = .pointer (some ⟨w2.heap.size, 0, none⟩), fun _ v => v = .pointer (some ⟨w2.heap.size, 1, none⟩), fun _ v => v = .pointer (some ⟨w2.heap.size, 1, none⟩), fun _ v => v = .pointer (some ⟨w2.heap.size, 2, none⟩), fun _ v => v = .int .i64 (S0.z0)] hS298 (by kernel_rfl) (by kernel_rfl) (MonoFs.pure (MonoFs.pure (MonoFs.pure (MonoFs.pure (MonoFs.pure (MonoFs.pure (MonoFs.pure (MonoFs.pure MonoFs.nil)))))))) ⟨rfl, rfl, rfl, rfl, rfl, trivial⟩ ⟨?_, ?_, ?_, ?_, ?_, ?_, ?_, ?_, trivial⟩ ?_
            · intro r_ w338 h339 hl340 hS337 hb_ hp_
              obtain ⟨b0_, b1_, b2_, b3_, b4_, _⟩ := hb_
              refine S_call (vs := [.pointer (some ⟨w285.heap.size, 0, none⟩)]) Tryz.call40 (hmap1 b3_) ((bld_LenS hS337 (i := 1) rfl).mono ?_)
              rintro _ w341 ⟨rfl, hS342⟩
              refine WL.nil ?_
              exact ⟨rfl, _, _, rfl, (Hp.le_refl _), rfl, hS342⟩
            · intro r_ w344 h345 hl346 hS343 hb_ hp_
              obtain ⟨b0_, b1_, b2_, b3_, b4_, _⟩ := hb_
              refine WL.val1 (R_move (v := .pointer (some ⟨w2.heap.size, 0, none⟩)) b1_) ?_
              refine WL.nil ?_
              exact ⟨rfl, _, _, rfl, (Hp.le_refl _), rfl, hS343⟩
            · intro r_ w348 h349 hl350 hS347 hb_ hp_
              obtain ⟨b0_, b1_, b2_, b3_, b4_, _⟩ := hb_
              refine WL.val1 (R_move (v := .int .i64 (0)) b2_) ?_
              refine WL.nil ?_
              exact ⟨rfl, _, _, rfl, (Hp.le_refl _), rfl, hS347⟩
            · intro r_ w352 h353 hl354 hS351 hb_ hp_
              obtain ⟨b0_, b1_, b2_, b3_, b4_, _⟩ := hb_
              obtain ⟨p0_, _⟩ := hp_
              have p0_ : r_ 41 = .pointer (some ⟨w2.heap.size, 0, none⟩) := p0_
              refine WL.val1 (R_nilCheck p0_) ?_
              refine WL.nil ?_
              exact ⟨rfl, _, _, rfl, (Hp.le_refl _), rfl, hS351⟩
            · intro r_ w356 h357 hl358 hS355 hb_ hp_
              obtain ⟨b0_, b1_, b2_, b3_, b4_, _⟩ := hb_
              obtain ⟨p0_, _⟩ := hp_
              have p0_ : r_ 43 = .pointer (some ⟨w2.heap.size, 0, none⟩) := p0_
              refine WL.val1 (R_fieldAddr (b := w2.heap.size) (off := 0) (m := 1) p0_ (fun _ => by kernel_rfl)) ?_
              refine WL.nil ?_
              exact ⟨rfl, _, _, rfl, (Hp.le_refl _), rfl, hS355⟩
            · intro r_ w360 h361 hl362 hS359 hb_ hp_
              obtain ⟨b0_, b1_, b2_, b3_, b4_, _⟩ := hb_
              obtain ⟨p0_, p1_, _⟩ := hp_
              have p0_ : r_ 44 = .pointer (some ⟨w2.heap.size, 1, none⟩) := p0_
              have p1_ : r_ 42 = .int .i64 (0) := p1_
              refine WL.val1 (R_indexArr (b := w2.heap.size) (o := 1) (i := 0) (m := 0) p0_ p1_ Tryz.underlying58 (Tryz.sizeOf57 _) rfl (by decide)) ?_
              refine WL.nil ?_
              exact ⟨rfl, _, _, rfl, (Hp.le_refl _), rfl, hS359⟩
            · intro r_ w364 h365 hl366 hS363 hb_ hp_
              obtain ⟨b0_, b1_, b2_, b3_, b4_, _⟩ := hb_
              obtain ⟨p0_, _⟩ := hp_
              have p0_ : r_ 45 = .pointer (some ⟨w2.heap.size, 1, none⟩) := p0_
              refine WL.val1 (R_fieldAddr (b := w2.heap.size) (off := 1) (m := 1) p0_ (fun _ => by kernel_rfl)) ?_
              refine WL.nil ?_
              exact ⟨rfl, _, _, rfl, (Hp.le_refl _), rfl, hS363⟩
            · intro r_ w368 h369 hl370 hS367 hb_ hp_
              obtain ⟨b0_, b1_, b2_, b3_, b4_, _⟩ := hb_
              obtain ⟨p0_, _⟩ := hp_
              have p0_ : r_ 46 = .pointer (some ⟨w2.heap.size, 2, none⟩) := p0_
              refine WL.val1 (R_load (v := .int .i64 (S0.z0)) p0_ (hS367.has (i := 5) rfl) (Tryz.isAgg3 _) rfl) ?_
              refine WL.nil ?_
              exact ⟨rfl, _, _, rfl, (Hp.le_refl _), rfl, hS367⟩
            · intro r_ w372 h373 hl374 hS371 hb_ hf_
              obtain ⟨b0_, b1_, b2_, b3_, b4_, _⟩ := hb_
              have q0_ := AF.get hf_ 0 (d := 40) rfl rfl
              have q7_ := AF.get hf_ 7 (d := 47) rfl rfl
              refine WL.frame [(0, .pointer (some ⟨D_b, 0, none⟩)), (4, .pointer (some ⟨w2.heap.size, 0, none⟩)), (8, .int .i64 (0)), (9, .pointer (some ⟨w285.heap.size, 0, none⟩)), (10, .int .i64 (((i : Nat) : Int))), (40, .int .i64 ((((out).length : Nat) : Int))), (47, .int .i64 (S0.z0))] ⟨b0_, b1_, b2_, b3_, b4_, q0_, q7_, trivial⟩ (fun r_ => ?_)
              refine WL.val1 (R_lss (a := (((out).length : Nat) : Int)) (b := S0.z0) rfl rfl) ?_
              refine WL.nil ?_
              refine then_normal ?_
              refine WC.condP ((((out).length : Nat) : Int) < S0.z0) rfl (fun c2 => ?_) (fun c2 => ?_)
              · skip
                have hlt_ : out.length < T.length := by omega
                have hnx_ := ho.next (i := i) (by rw [← f1]; exact hlt_) hn
                rw [hnw0_] at hnx_
                have hnl_ := congrArg List.length hnx_
                rw [List.length_take] at hnl_
                refine WC.skip ?_
                refine then_normal ?_
                refine WC.seq ?_
                refine WC.block ?_
                refine WC.seq ?_
                refine WC.region ?_
                refine WL.val1 (R_move (v := .pointer (some ⟨D_b, 0, none⟩)) rfl) ?_
                refine WL.val1 (R_move (v := .int .i64 (0)) rfl) ?_
                refine WL.val1 (R_move (v := .pointer (some ⟨D_b, 0, none⟩)) rfl) ?_
                have hS377 := hS371.growMono (i := 0) rfl hl374
                have hS378 := hS377.growMono (i := 4) rfl hl374
                have hS379 := hS378.growMono (i := 6) rfl hl374
                have hS380 : St Γ2 h373 (row (D_b) [.bool (D.is), .int .i64 (D.left), .int .i64 (D.n), .map (some (D_held_b)), .slice (D_pend_a) (D.pend).length (D_pend_c)] 78 :: mpG Mwr (D_held_b) (D.held) (D_held_k) :: grow 80 RWr h373 (D.pend) (D_pend_a) (D_pend_c) :: grow 5 Rby h373 (out) (out_a) (out_c) :: row (w285.heap.size) [p, .slice (out_a) (out).length (out_c)] 88 :: emp :: emp :: emp :: row (w2.heap.size) [.pointer (some ⟨D_b, 0, none⟩), .int .i64 (S0.g0), .int .i64 (S0.z0), .int .i64 (S0.g1), .int .i64 (S0.z1), .slice (none) 0 (0)] 60 :: grow 29 RFile h373 (([] : List File)) (none) (0) :: L2) w372 := (((hS379.front (i := 4) rfl).front (i := 4) rfl).front (i := 4) rfl)
                refine S_callH (vs := [.pointer (some ⟨D_b, 0, none⟩)]) (A := fun hh_ => [row (D_b) [.bool (D.is), .int .i64 (D.left), .int .i64 (D.n), .map (some (D_held_b)), .slice (D_pend_a) (D.pend).length (D_pend_c)] 78, mpG Mwr (D_held_b) (D.held) (D_held_k), grow 80 RWr hh_ (D.pend) (D_pend_a) (D_pend_c)]) (L := grow 5 Rby h373 (out) (out_a) (out_c) :: row (w285.heap.size) [p, .slice (out_a) (out).length (out_c)] 88 :: emp :: emp :: emp :: row (w2.heap.size) [.pointer (some ⟨D_b, 0, none⟩), .int .i64 (S0.g0), .int .i64 (S0.z0), .int .i64 (S0.g1), .int .i64 (S0.z1), .slice (none) 0 (0)] 60 :: grow 29 RFile h373 (([] : List File)) (none) (0) :: L2) hS380 Tryz.call25 rfl (disk_Len (D) (D_b) (D_held_b) (D_held_k) (D_pend_a) (D_pend_c)) trivial ?_
                intro A381 v382 w376 hp383 hS375
                obtain ⟨rfl, rfl⟩ := hp383
                have hS375 : St Γ2 h373 (row (D_b) [.bool (D.is), .int .i64 (D.left), .int .i64 (D.n), .map (some (D_held_b)), .slice (D_pend_a) (D.pend).length (D_pend_c)] 78 :: mpG Mwr (D_held_b) (D.held) (D_held_k) :: grow 80 RWr h373 (D.pend) (D_pend_a) (D_pend_c) :: grow 5 Rby h373 (out) (out_a) (out_c) :: row (w285.heap.size) [p, .slice (out_a) (out).length (out_c)] 88 :: emp :: emp :: emp :: row (w2.heap.size) [.pointer (some ⟨D_b, 0, none⟩), .int .i64 (S0.g0), .int .i64 (S0.z0), .int .i64 (S0.g1), .int .i64 (S0.z1), .slice (none) 0 (0)] 60 :: grow 29 RFile h373 (([] : List File)) (none) (0) :: L2) w376 := hS375
                have hS384 : St Γ2 h373 (grow 5 Rby h373 (out) (out_a) (out_c) :: row (w285.heap.size) [p, .slice (out_a) (out).length (out_c)] 88 :: row (D_b) [.bool (D.is), .int .i64 (D.left), .int .i64 (D.n), .map (some (D_held_b)), .slice (D_pend_a) (D.pend).length (D_pend_c)] 78 :: mpG Mwr (D_held_b) (D.held) (D_held_k) :: grow 80 RWr h373 (D.pend) (D_pend_a) (D_pend_c) :: row (w2.heap.size) [.pointer (some ⟨D_b, 0, none⟩), .int .i64 (S0.g0), .int .i64 (S0.z0), .int .i64 (S0.g1), .int .i64 (S0.z1), .slice (none) 0 (0)] 60 :: grow 29 RFile h373 (([] : List File)) (none) (0) :: L2) w376 := (St.back2 (i := 4) (St.back2 (i := 4) (St.back2 (i := 4) hS375 rfl) rfl) rfl)
                refine S_callP (vs := [.int .i64 (D.n)]) hS384 Tryz.call21 rfl (store_half (D.n) (by first | assumption | omega)) trivial ?_
                intro w386 hS385
                refine WL.val1 (R_mul_i (a := 0) (b := ((D.n - 2) / 2)) rfl rfl (by omega)) ?_
                refine WL.val1 (R_add_i (a := 2) (b := (0 * ((D.n - 2) / 2))) rfl rfl (by omega)) ?_
                refine WL.val1 (R_move (v := .int .i64 (((i : Nat) : Int))) rfl) ?_
                refine WL.val1 (R_add_i (a := (2 + (0 * ((D.n - 2) / 2)))) (b := ((i : Nat) : Int)) rfl rfl (by omega)) ?_
                have hS389 : St Γ2 h373 (row (D_b) [.bool (D.is), .int .i64 (D.left), .int .i64 (D.n), .map (some (D_held_b)), .slice (D_pend_a) (D.pend).length (D_pend_c)] 78 :: mpG Mwr (D_held_b) (D.held) (D_held_k) :: grow 80 RWr h373 (D.pend) (D_pend_a) (D_pend_c) :: grow 5 Rby h373 (out) (out_a) (out_c) :: row (w285.heap.size) [p, .slice (out_a) (out).length (out_c)] 88 :: emp :: emp :: emp :: row (w2.heap.size) [.pointer (some ⟨D_b, 0, none⟩), .int .i64 (S0.g0), .int .i64 (S0.z0), .int .i64 (S0.g1), .int .i64 (S0.z1), .slice (none) 0 (0)] 60 :: grow 29 RFile h373 (([] : List File)) (none) (0) :: L2) w386 := (((hS385.front (i := 4) rfl).front (i := 4) rfl).front (i := 4) rfl)
                refine S_callH (vs := [.pointer (some ⟨D_b, 0, none⟩), .int .i64 (((2 + (0 * ((D.n - 2) / 2))) + ((i : Nat) : Int)))]) (A := fun hh_ => [row (D_b) [.bool (D.is), .int .i64 (D.left), .int .i64 (D.n), .map (some (D_held_b)), .slice (D_pend_a) (D.pend).length (D_pend_c)] 78, mpG Mwr (D_held_b) (D.held) (D_held_k), grow 80 RWr hh_ (D.pend) (D_pend_a) (D_pend_c)]) (L := grow 5 Rby h373 (out) (out_a) (out_c) :: row (w285.heap.size) [p, .slice (out_a) (out).length (out_c)] 88 :: emp :: emp :: emp :: row (w2.heap.size) [.pointer (some ⟨D_b, 0, none⟩), .int .i64 (S0.g0), .int .i64 (S0.z0), .int .i64 (S0.g1), .int .i64 (S0.z1), .slice (none) 0 (0)] 60 :: grow 29 RFile h373 (([] : List File)) (none) (0) :: L2) hS389 Tryz.call38 rfl (disk_Read (D) (D_b) (D_held_b) (D_held_k) (D_pend_a) (D_pend_c) (((2 + (0 * ((D.n - 2) / 2))) + ((i : Nat) : Int))) (by first | assumption | omega)) trivial ?_
                intro A390 v391 w388 hp392 hS387
                obtain ⟨rfl, rfl⟩ := hp392
                have hS387 : St Γ2 h373 (row (D_b) [.bool (D.is), .int .i64 (D.left), .int .i64 (D.n), .map (some (D_held_b)), .slice (D_pend_a) (D.pend).length (D_pend_c)] 78 :: mpG Mwr (D_held_b) (D.held) (D_held_k) :: grow 80 RWr h373 (D.pend) (D_pend_a) (D_pend_c) :: grow 5 Rby h373 (out) (out_a) (out_c) :: row (w285.heap.size) [p, .slice (out_a) (out).length (out_c)] 88 :: emp :: emp :: emp :: row (w2.heap.size) [.pointer (some ⟨D_b, 0, none⟩), .int .i64 (S0.g0), .int .i64 (S0.z0), .int .i64 (S0.g1), .int .i64 (S0.z1), .slice (none) 0 (0)] 60 :: grow 29 RFile h373 (([] : List File)) (none) (0) :: L2) w388 := hS387
                have hS393 : St Γ2 h373 (grow 5 Rby h373 (out) (out_a) (out_c) :: row (w285.heap.size) [p, .slice (out_a) (out).length (out_c)] 88 :: row (D_b) [.bool (D.is), .int .i64 (D.left), .int .i64 (D.n), .map (some (D_held_b)), .slice (D_pend_a) (D.pend).length (D_pend_c)] 78 :: mpG Mwr (D_held_b) (D.held) (D_held_k) :: grow 80 RWr h373 (D.pend) (D_pend_a) (D_pend_c) :: row (w2.heap.size) [.pointer (some ⟨D_b, 0, none⟩), .int .i64 (S0.g0), .int .i64 (S0.z0), .int .i64 (S0.g1), .int .i64 (S0.z1), .slice (none) 0 (0)] 60 :: grow 29 RFile h373 (([] : List File)) (none) (0) :: L2) w388 := (St.back2 (i := 4) (St.back2 (i := 4) (St.back2 (i := 4) hS387 rfl) rfl) rfl)
                refine WL.val1 (R_move (v := .tuple #[.string (B ((readD D (((2 + (0 * ((D.n - 2) / 2))) + ((i : Nat) : Int)))).1)), .int .i64 ((readD D (((2 + (0 * ((D.n - 2) / 2))) + ((i : Nat) : Int)))).2)]) rfl) ?_
                refine WL.val1 (R_extract (vs := ([.string (B ((readD D (((2 + (0 * ((D.n - 2) / 2))) + ((i : Nat) : Int)))).1)), .int .i64 ((readD D (((2 + (0 * ((D.n - 2) / 2))) + ((i : Nat) : Int)))).2)] : List Value).toArray) (v := .string (B ((readD D (((2 + (0 * ((D.n - 2) / 2))) + ((i : Nat) : Int)))).1))) rfl rfl) ?_
                refine WL.val1 (R_extract (vs := ([.string (B ((readD D (((2 + (0 * ((D.n - 2) / 2))) + ((i : Nat) : Int)))).1)), .int .i64 ((readD D (((2 + (0 * ((D.n - 2) / 2))) + ((i : Nat) : Int)))).2)] : List Value).toArray) (v := .int .i64 ((readD D (((2 + (0 * ((D.n - 2) / 2))) + ((i : Nat) : Int)))).2)) rfl rfl) ?_
                refine WL.val1 (R_assign (v := .string (B ((readD D (((2 + (0 * ((D.n - 2) / 2))) + ((i : Nat) : Int)))).1))) rfl) ?_
                refine WL.val1 (R_assign (v := .int .i64 ((readD D (((2 + (0 * ((D.n - 2) / 2))) + ((i : Nat) : Int)))).2)) rfl) ?_
                refine WL.nil ?_
                refine then_normal ?_
                refine WC.region ?_
                refine WL.val1 (R_move (v := .string (B ((readD D (((2 + (0 * ((D.n - 2) / 2))) + ((i : Nat) : Int)))).1))) rfl) ?_
                have hS396 : St Γ2 h373 (grow 5 Rby h373 (out) (out_a) (out_c) :: emp :: row (w285.heap.size) [p, .slice (out_a) (out).length (out_c)] 88 :: row (D_b) [.bool (D.is), .int .i64 (D.left), .int .i64 (D.n), .map (some (D_held_b)), .slice (D_pend_a) (D.pend).length (D_pend_c)] 78 :: mpG Mwr (D_held_b) (D.held) (D_held_k) :: grow 80 RWr h373 (D.pend) (D_pend_a) (D_pend_c) :: row (w2.heap.size) [.pointer (some ⟨D_b, 0, none⟩), .int .i64 (S0.g0), .int .i64 (S0.z0), .int .i64 (S0.g1), .int .i64 (S0.z1), .slice (none) 0 (0)] 60 :: grow 29 RFile h373 (([] : List File)) (none) (0) :: L2) w388 := hS393.front (i := 0) rfl
                have hS397 : St Γ2 h373 (row (w285.heap.size) [p, .slice (out_a) (out).length (out_c)] 88 :: grow 5 Rby h373 (out) (out_a) (out_c) :: emp :: emp :: row (D_b) [.bool (D.is), .int .i64 (D.left), .int .i64 (D.n), .map (some (D_held_b)), .slice (D_pend_a) (D.pend).length (D_pend_c)] 78 :: mpG Mwr (D_held_b) (D.held) (D_held_k) :: grow 80 RWr h373 (D.pend) (D_pend_a) (D_pend_c) :: row (w2.heap.size) [.pointer (some ⟨D_b, 0, none⟩), .int .i64 (S0.g0), .int .i64 (S0.z0), .int .i64 (S0.g1), .int .i64 (S0.z1), .slice (none) 0 (0)] 60 :: grow 29 RFile h373 (([] : List File)) (none) (0) :: L2) w388 := hS396.front (i := 2) rfl
                refine S_callL (vs := [.pointer (some ⟨w285.heap.size, 0, none⟩), .string (B ((readD D (((2 + (0 * ((D.n - 2) / 2))) + ((i : Nat) : Int)))).1))]) (A := fun hh_ => [row (w285.heap.size) [p, .slice (out_a) (out).length (out_c)] 88, grow 5 Rby hh_ (out) (out_a) (out_c)]) (L := emp :: emp :: row (D_b) [.bool (D.is), .int .i64 (D.left), .int .i64 (D.n), .map (some (D_held_b)), .slice (D_pend_a) (D.pend).length (D_pend_c)] 78 :: mpG Mwr (D_held_b) (D.held) (D_held_k) :: grow 80 RWr h373 (D.pend) (D_pend_a) (D_pend_c) :: row (w2.heap.size) [.pointer (some ⟨D_b, 0, none⟩), .int .i64 (S0.g0), .int .i64 (S0.z0), .int .i64 (S0.g1), .int .i64 (S0.z1), .slice (none) 0 (0)] 60 :: grow 29 RFile h373 (([] : List File)) (none) (0) :: L2) hS397 Tryz.call41 rfl (bld_Write (w285.heap.size) (p) (out) (out_a) (out_c) ((readD D (((2 + (0 * ((D.n - 2) / 2))) + ((i : Nat) : Int)))).1) (by first | assumption | omega) (by first | assumption | omega)) trivial ?_
                intro h398 A400 v401 w395 hl399 hp402 hS394
                obtain ⟨a2403, c2404, rfl, rfl⟩ := hp402
                have hS394 : St Γ2 h398 (row (w285.heap.size) [.pointer (some ⟨w285.heap.size, 0, none⟩), .slice (a2403) ((out ++ ((readD D (((2 + (0 * ((D.n - 2) / 2))) + ((i : Nat) : Int)))).1))).length (c2404)] 88 :: grow 5 Rby h398 ((out ++ ((readD D (((2 + (0 * ((D.n - 2) / 2))) + ((i : Nat) : Int)))).1))) (a2403) (c2404) :: emp :: emp :: row (D_b) [.bool (D.is), .int .i64 (D.left), .int .i64 (D.n), .map (some (D_held_b)), .slice (D_pend_a) (D.pend).length (D_pend_c)] 78 :: mpG Mwr (D_held_b) (D.held) (D_held_k) :: grow 80 RWr h373 (D.pend) (D_pend_a) (D_pend_c) :: row (w2.heap.size) [.pointer (some ⟨D_b, 0, none⟩), .int .i64 (S0.g0), .int .i64 (S0.z0), .int .i64 (S0.g1), .int .i64 (S0.z1), .slice (none) 0 (0)] 60 :: grow 29 RFile h373 (([] : List File)) (none) (0) :: L2) w395 := hS394
                have hS405 : St Γ2 h398 (grow 5 Rby h398 ((out ++ ((readD D (((2 + (0 * ((D.n - 2) / 2))) + ((i : Nat) : Int)))).1))) (a2403) (c2404) :: emp :: row (w285.heap.size) [.pointer (some ⟨w285.heap.size, 0, none⟩), .slice (a2403) ((out ++ ((readD D (((2 + (0 * ((D.n - 2) / 2))) + ((i : Nat) : Int)))).1))).length (c2404)] 88 :: row (D_b) [.bool (D.is), .int .i64 (D.left), .int .i64 (D.n), .map (some (D_held_b)), .slice (D_pend_a) (D.pend).length (D_pend_c)] 78 :: mpG Mwr (D_held_b) (D.held) (D_held_k) :: grow 80 RWr h373 (D.pend) (D_pend_a) (D_pend_c) :: row (w2.heap.size) [.pointer (some ⟨D_b, 0, none⟩), .int .i64 (S0.g0), .int .i64 (S0.z0), .int .i64 (S0.g1), .int .i64 (S0.z1), .slice (none) 0 (0)] 60 :: grow 29 RFile h373 (([] : List File)) (none) (0) :: L2) w395 := St.back (L := grow 5 Rby h398 ((out ++ ((readD D (((2 + (0 * ((D.n - 2) / 2))) + ((i : Nat) : Int)))).1))) (a2403) (c2404) :: emp :: row (w285.heap.size) [.pointer (some ⟨w285.heap.size, 0, none⟩), .slice (a2403) ((out ++ ((readD D (((2 + (0 * ((D.n - 2) / 2))) + ((i : Nat) : Int)))).1))).length (c2404)] 88 :: row (D_b) [.bool (D.is), .int .i64 (D.left), .int .i64 (D.n), .map (some (D_held_b)), .slice (D_pend_a) (D.pend).length (D_pend_c)] 78 :: mpG Mwr (D_held_b) (D.held) (D_held_k) :: grow 80 RWr h373 (D.pend) (D_pend_a) (D_pend_c) :: row (w2.heap.size) [.pointer (some ⟨D_b, 0, none⟩), .int .i64 (S0.g0), .int .i64 (S0.z0), .int .i64 (S0.g1), .int .i64 (S0.z1), .slice (none) 0 (0)] 60 :: grow 29 RFile h373 (([] : List File)) (none) (0) :: L2) (i := 2) hS394 rfl
                have hS406 : St Γ2 h398 (grow 5 Rby h398 ((out ++ ((readD D (((2 + (0 * ((D.n - 2) / 2))) + ((i : Nat) : Int)))).1))) (a2403) (c2404) :: row (w285.heap.size) [.pointer (some ⟨w285.heap.size, 0, none⟩), .slice (a2403) ((out ++ ((readD D (((2 + (0 * ((D.n - 2) / 2))) + ((i : Nat) : Int)))).1))).length (c2404)] 88 :: row (D_b) [.bool (D.is), .int .i64 (D.left), .int .i64 (D.n), .map (some (D_held_b)), .slice (D_pend_a) (D.pend).length (D_pend_c)] 78 :: mpG Mwr (D_held_b) (D.held) (D_held_k) :: grow 80 RWr h373 (D.pend) (D_pend_a) (D_pend_c) :: row (w2.heap.size) [.pointer (some ⟨D_b, 0, none⟩), .int .i64 (S0.g0), .int .i64 (S0.z0), .int .i64 (S0.g1), .int .i64 (S0.z1), .slice (none) 0 (0)] 60 :: grow 29 RFile h373 (([] : List File)) (none) (0) :: L2) w395 := St.back (L := grow 5 Rby h398 ((out ++ ((readD D (((2 + (0 * ((D.n - 2) / 2))) + ((i : Nat) : Int)))).1))) (a2403) (c2404) :: row (w285.heap.size) [.pointer (some ⟨w285.heap.size, 0, none⟩), .slice (a2403) ((out ++ ((readD D (((2 + (0 * ((D.n - 2) / 2))) + ((i : Nat) : Int)))).1))).length (c2404)] 88 :: row (D_b) [.bool (D.is), .int .i64 (D.left), .int .i64 (D.n), .map (some (D_held_b)), .slice (D_pend_a) (D.pend).length (D_pend_c)] 78 :: mpG Mwr (D_held_b) (D.held) (D_held_k) :: grow 80 RWr h373 (D.pend) (D_pend_a) (D_pend_c) :: row (w2.heap.size) [.pointer (some ⟨D_b, 0, none⟩), .int .i64 (S0.g0), .int .i64 (S0.z0), .int .i64 (S0.g1), .int .i64 (S0.z1), .slice (none) 0 (0)] 60 :: grow 29 RFile h373 (([] : List File)) (none) (0) :: L2) (i := 0) hS405 rfl
                refine WL.nil ?_
                refine block_normal ?_
                refine then_normal ?_
                refine WC.region ?_
                refine WL.val1 (R_move (v := .int .i64 (((i : Nat) : Int))) rfl) ?_
                refine WL.val1 (R_add_i (a := ((i : Nat) : Int)) (b := 1) rfl rfl (by omega)) ?_
                refine WL.val1 (R_assign (v := .int .i64 ((((i : Nat) : Int) + 1))) rfl) ?_
                refine WL.nil ?_
                refine then_normal ?_
                have hS407 := hS406.growMono (i := 4) rfl hl399
                have hS408 := hS407.growMono (i := 6) rfl hl399
                exact ⟨(i + 1, (out ++ ((readD D (((2 + (0 * ((D.n - 2) / 2))) + ((i : Nat) : Int)))).1)), a2403, c2404, .pointer (some ⟨w285.heap.size, 0, none⟩)), ⟨rfl, rfl, rfl, rfl, (by first | rfl | (apply congrArg (Value.int .i64); omega) | simp), trivial⟩, ⟨h398, ((hl301.trans hl374).trans hl399), hS408, (by (try dsimp only); rw [hnx_]; (try rw [f1]); exact take64), (by (try dsimp only); rw [f1, List.length_take] at hlt_; omega), (by (try dsimp only); exact .inr rfl)⟩, (by (try simp only []); rw [List.length_append, hnx_, List.length_take, List.length_drop]; rw [f1, List.length_take] at hlt_ ⊢; omega)⟩
              · skip
                refine WC.exit ?_
                refine then_exit ?_
                refine then_exit ?_
                refine block_exit ?_
                refine then_normal ?_
                refine WC.seq ?_
                refine WC.region ?_
                have hS409 := hS371.growMono (i := 0) rfl hl374
                have hS410 := hS409.growMono (i := 4) rfl hl374
                have hS411 := hS410.growMono (i := 6) rfl hl374
                have hS412 : St Γ2 h373 (row (w285.heap.size) [p, .slice (out_a) (out).length (out_c)] 88 :: grow 5 Rby h373 (out) (out_a) (out_c) :: row (D_b) [.bool (D.is), .int .i64 (D.left), .int .i64 (D.n), .map (some (D_held_b)), .slice (D_pend_a) (D.pend).length (D_pend_c)] 78 :: mpG Mwr (D_held_b) (D.held) (D_held_k) :: grow 80 RWr h373 (D.pend) (D_pend_a) (D_pend_c) :: row (w2.heap.size) [.pointer (some ⟨D_b, 0, none⟩), .int .i64 (S0.g0), .int .i64 (S0.z0), .int .i64 (S0.g1), .int .i64 (S0.z1), .slice (none) 0 (0)] 60 :: grow 29 RFile h373 (([] : List File)) (none) (0) :: L2) w372 := (((((((hS411.move (i := 6) rfl).move (i := 6) rfl).move (i := 6) rfl).move (i := 6) rfl).move (i := 6) rfl).move (i := 5) rfl).move (i := 6) rfl)
                subst hL2_
                refine S_call (vs := [.pointer (some ⟨w285.heap.size, 0, none⟩)]) Tryz.call43 rfl ((bld_StringA hM_ (Dms.cons (Dm_row (by decide)) (Dms.cons Dm_map (Dms.cons (Dm_grow (by decide)) (Dms.cons (Dm_row (by decide)) (Dms.cons (Dm_grow (by decide)) Dms.nil))))) hMl2_ hin2_ (hl301.trans hl374) hbs_ hp hS412).mono ?_)
                rintro v413 w414 ⟨rfl, hS415⟩
                have hS416 : St Γ h135 (row (D_b) [.bool (D.is), .int .i64 (D.left), .int .i64 (D.n), .map (some (D_held_b)), .slice (D_pend_a) (D.pend).length (D_pend_c)] 78 :: mpG Mwr (D_held_b) (D.held) (D_held_k) :: grow 80 RWr h135 (D.pend) (D_pend_a) (D_pend_c) :: row (w2.heap.size) [.pointer (some ⟨D_b, 0, none⟩), .int .i64 (S0.g0), .int .i64 (S0.z0), .int .i64 (S0.g1), .int .i64 (S0.z1), .slice (none) 0 (0)] 60 :: grow 29 RFile h135 (([] : List File)) (none) (0) :: L) w414 := back_ _ _ ((hS415.growFree (i := 2) h135 RWr_free rfl).growFree (i := 4) h135 RFile_free rfl)
                refine S_callH (vs := [.string (B (out))]) (A := fun hh_ => []) (L := row (D_b) [.bool (D.is), .int .i64 (D.left), .int .i64 (D.n), .map (some (D_held_b)), .slice (D_pend_a) (D.pend).length (D_pend_c)] 78 :: mpG Mwr (D_held_b) (D.held) (D_held_k) :: grow 80 RWr h135 (D.pend) (D_pend_a) (D_pend_c) :: row (w2.heap.size) [.pointer (some ⟨D_b, 0, none⟩), .int .i64 (S0.g0), .int .i64 (S0.z0), .int .i64 (S0.g1), .int .i64 (S0.z1), .slice (none) 0 (0)] 60 :: grow 29 RFile h135 (([] : List File)) (none) (0) :: L) hS416 Tryz.call42 rfl (wire_Parse (out) (by first | assumption | omega)) trivial ?_
                intro A419 v420 w418 hp421 hS417
                obtain ⟨r_a422, r_c423, rfl, rfl⟩ := hp421
                have hS417 : St Γ h135 (grow 29 RFile h135 ((parseS out).1) (r_a422) (r_c423) :: row (D_b) [.bool (D.is), .int .i64 (D.left), .int .i64 (D.n), .map (some (D_held_b)), .slice (D_pend_a) (D.pend).length (D_pend_c)] 78 :: mpG Mwr (D_held_b) (D.held) (D_held_k) :: grow 80 RWr h135 (D.pend) (D_pend_a) (D_pend_c) :: row (w2.heap.size) [.pointer (some ⟨D_b, 0, none⟩), .int .i64 (S0.g0), .int .i64 (S0.z0), .int .i64 (S0.g1), .int .i64 (S0.z1), .slice (none) 0 (0)] 60 :: grow 29 RFile h135 (([] : List File)) (none) (0) :: L) w418 := hS417
                refine WL.val1 (R_move (v := .tuple #[.slice (r_a422) ((parseS out).1).length (r_c423), .int .i64 ((parseS out).2)]) rfl) ?_
                refine WL.val1 (R_extract (vs := ([.slice (r_a422) ((parseS out).1).length (r_c423), .int .i64 ((parseS out).2)] : List Value).toArray) (v := .slice (r_a422) ((parseS out).1).length (r_c423)) rfl rfl) ?_
                refine WL.val1 (R_extract (vs := ([.slice (r_a422) ((parseS out).1).length (r_c423), .int .i64 ((parseS out).2)] : List Value).toArray) (v := .int .i64 ((parseS out).2)) rfl rfl) ?_
                refine WL.val1 (R_assign (v := .slice (r_a422) ((parseS out).1).length (r_c423)) rfl) ?_
                refine WL.val1 (R_assign (v := .int .i64 ((parseS out).2)) rfl) ?_
                refine WL.nil ?_
                refine then_normal ?_
                refine WC.seq ?_
                refine WC.region ?_
                refine WL.val1 (R_move (v := .pointer (some ⟨w2.heap.size, 0, none⟩)) rfl) ?_
                refine WL.val1 (R_move (v := .slice (r_a422) ((parseS out).1).length (r_c423)) rfl) ?_
                refine WL.val1 (R_nilCheck rfl) ?_
                refine WL.val1 (R_fieldAddr (b := w2.heap.size) (off := 0) (m := 5) rfl (fun _ => by kernel_rfl)) ?_
                refine S_store (i := 4) (b := w2.heap.size) (l := [.pointer (some ⟨D_b, 0, none⟩), .int .i64 (S0.g0), .int .i64 (S0.z0), .int .i64 (S0.g1), .int .i64 (S0.z1), .slice (none) 0 (0)]) (l' := [.pointer (some ⟨D_b, 0, none⟩), .int .i64 (S0.g0), .int .i64 (S0.z0), .int .i64 (S0.g1), .int .i64 (S0.z1), .slice (r_a422) ((parseS out).1).length (r_c423)]) (vs := [.slice (r_a422) ((parseS out).1).length (r_c423)]) (v := .slice (r_a422) ((parseS out).1).length (r_c423)) hS417 rfl rfl rfl Tryz.sizeOf30 rfl rfl rfl (Nat.le_of_ble_eq_true rfl) rfl rfl ?_
                intro w425 hS424
                refine WL.nil ?_
                refine then_normal ?_
                refine WC.seq ?_
                refine WC.region ?_
                refine WL.val1 (R_move (v := .pointer (some ⟨w2.heap.size, 0, none⟩)) rfl) ?_
                refine WL.val1 (R_assign (v := .pointer (some ⟨w2.heap.size, 0, none⟩)) rfl) ?_
                refine WL.val1 (R_assign (v := .int .i64 (0)) rfl) ?_
                refine WL.nil ?_
                refine then_normal ?_
                refine WC.ret ?_
                refine top_ret (.tuple #[.pointer (some ⟨w2.heap.size, 0, none⟩), .int .i64 (0)]) (gives2 rfl rfl rfl) ?_
                have e0_ : out = T := by
                  have hx_ := congrArg List.length f1
                  rw [List.length_take] at hx_
                  rw [f1]; apply List.take_of_length_le; omega
                have e_ : (parseS out).1 = S0.files := by rw [e0_]; exact ho.files
                have hS426 : St Γ h135 (row (D_b) [.bool (D.is), .int .i64 (D.left), .int .i64 (D.n), .map (some (D_held_b)), .slice (D_pend_a) (D.pend).length (D_pend_c)] 78 :: mpG Mwr (D_held_b) (D.held) (D_held_k) :: grow 80 RWr h135 (D.pend) (D_pend_a) (D_pend_c) :: row (w2.heap.size) [.pointer (some ⟨D_b, 0, none⟩), .int .i64 (S0.g0), .int .i64 (S0.z0), .int .i64 (S0.g1), .int .i64 (S0.z1), .slice (r_a422) ((parseS out).1).length (r_c423)] 60 :: grow 29 RFile h135 ((parseS out).1) (r_a422) (r_c423) :: L) w425 := ((((((hS424.move (i := 0) rfl).move (i := 4) rfl).move (i := 4) rfl).move (i := 4) rfl).move (i := 4) rfl).remove 5)
                exact ⟨[row (D_b) [.bool (D.is), .int .i64 (D.left), .int .i64 (D.n), .map (some (D_held_b)), .slice (D_pend_a) (D.pend).length (D_pend_c)] 78, mpG Mwr (D_held_b) (D.held) (D_held_k), grow 80 RWr h (D.pend) (D_pend_a) (D_pend_c), row (w2.heap.size) [.pointer (some ⟨D_b, 0, none⟩), .int .i64 (S0.g0), .int .i64 (S0.z0), .int .i64 (S0.g1), .int .i64 (S0.z1), .slice (r_a422) ((parseS out).1).length (r_c423)] 60, grow 29 RFile h ((parseS out).1) (r_a422) (r_c423)], ⟨w2.heap.size, r_a422, r_c423, (by first | rfl | (rw [e_]; done) | (rw [e_]; rfl) | (simp; done)), (by first | rfl | (rw [e_]; done) | (rw [e_]; rfl))⟩, (((hS426.growFree (i := 2) h RWr_free rfl).growFree (i := 4) h RFile_free rfl).weaken_h (hl70.trans hl136))⟩
end Go.Stet
