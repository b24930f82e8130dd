/- A part of the proof engine: rules for steps of the machine over frames and memory. Each under the conditions that its own statement names. -/
import Derived.Test.YtejombkbijackaaDoorSeatD2
import Derived.Test.YtejombkbijackaaDoorBldD
import Derived.Test.YtejombkbijackaaDoorEng15
import Derived.Test.YtejombkbijackaaDoorSpec12
import Derived.Test.YtejombkbijackaaDoorD13
set_option linter.all false
set_option linter.unusedSimpArgs false
set_option linter.unusedVariables false
namespace Go.Stet
open Go Go.Eng Go.Proofs
set_option maxHeartbeats 400000 in
theorem law_Cut (l : List Rec) (l_a : Option Addr) (l_c : Nat) (n : Nat) (hn : n ≤ 1000) : FnC GG Tryd.prog 4 (fun h => Sl RRec h l l_a l_c) [.slice (l_a) (l).length (l_c), .int .i64 (((n : Nat) : Int))] (fun h v => ∃ (a : Option Addr) (c : Nat), v = .slice (a) ((cutS l n)).length (c) ∧ (Sl RRec h (cutS l n) a c)) := by
  intro Γ h L w hpre hS
  have sl_l := hpre
  refine Ret.body Tryd.func4 rfl Tryd.ntmps4 (Nat.le_of_ble_eq_true rfl) ?_
  refine WC.seq ?_
  refine WC.region ?_
  refine WL.val1 (R_assign (v := .slice none 0 0) rfl) ?_
  refine WL.nil ?_
  refine then_normal ?_
  refine WC.seq ?_
  refine WC.region ?_
  refine S_buildSlice0 (R := RRec) (e := 35) hS Tryd.underlying22 (Tryd.sizeOf35) ?_
  intro w2 hS1
  refine WL.val1 (R_assign (v := .slice (some ⟨w.heap.size, 0, none⟩) 0 (0)) rfl) ?_
  refine WL.nil ?_
  refine then_normal ?_
  refine WC.seq ?_
  refine WC.seq ?_
  refine WC.region ?_
  refine WL.val1 (R_assign (v := .int .i64 (0)) rfl) ?_
  refine WL.nil ?_
  refine then_normal ?_
  refine WC.block ?_
  refine WC.loopL (σ := Nat × (List Rec) × (Option Addr) × Nat)
    (fun (q_ : Nat × (List Rec) × (Option Addr) × Nat) => (fun (i : Nat) (acc : List Rec) (acc_a : Option Addr) (acc_c : Nat) => [(0, .slice (l_a) (l).length (l_c)), (1, .int .i64 (((n : Nat) : Int))), (5, .slice (acc_a) (acc).length (acc_c)), (6, .int .i64 (((i : Nat) : Int)))]) (q_.1) (q_.2.1) (q_.2.2.1) (q_.2.2.2))
    (fun (q_ : Nat × (List Rec) × (Option Addr) × Nat) (w_ : World) => (fun (i : Nat) (acc : List Rec) (acc_a : Option Addr) (acc_c : Nat) => ∃ h5 : Hp, h.le h5 ∧ St Γ h5 (grow 35 RRec h5 (acc) (acc_a) (acc_c) :: L) w_ ∧ (i ≤ l.length ∧ i ≤ n) ∧ (acc = ((l.take n).take i).map cutRec)) (q_.1) (q_.2.1) (q_.2.2.1) (q_.2.2.2))
    (fun (q_ : Nat × (List Rec) × (Option Addr) × Nat) => (fun (i : Nat) (acc : List Rec) (acc_a : Option Addr) (acc_c : Nat) => l.length - i) (q_.1) (q_.2.1) (q_.2.2.1) (q_.2.2.2)) (0, ([] : List Rec), some ⟨w.heap.size, 0, none⟩, 0) ?_ ?_ ?_
  · exact ⟨rfl, rfl, (by first | rfl | (apply congrArg (Value.int .i64); omega) | simp), (by first | rfl | (apply congrArg (Value.int .i64); omega) | simp), trivial⟩
  · exact ⟨h, Hp.le_refl _, hS1, (by first | assumption | omega | simp), (by rw [List.take_zero]; rfl)⟩
  · rintro ⟨i, acc, acc_a, acc_c⟩ r7 w4 ⟨h5, hl6, hS3, f1, f2⟩
    try dsimp only at f1 f2
    have f3 : acc.length = i := by rw [f2, List.length_map, List.length_take, List.length_take]; omega
    refine WC.seq ?_
    refine WC.seq ?_
    refine WC.region ?_
    refine WL.val1 (R_move (v := .int .i64 (((i : Nat) : Int))) rfl) ?_
    refine WL.val1 (R_move (v := .slice (l_a) (l).length (l_c)) rfl) ?_
    refine WL.val1 (R_len_slice (n := (l).length) rfl Tryd.underlying22) ?_
    refine WL.val1 (R_lss (a := ((i : Nat) : Int)) (b := (((l).length : Nat) : Int)) rfl rfl) ?_
    refine WL.val1 (R_move (v := .bool (decide (((i : Nat) : Int) < (((l).length : Nat) : Int)))) rfl) ?_
    refine WL.gpure (gd := decide (((i : Nat) : Int) < (((l).length : Nat) : Int))) (yl_t (d := 17) rfl rfl) (fun hg => R_move (v := .int .i64 (((i : Nat) : Int))) rfl) ?_
    refine WL.gpure (gd := decide (((i : Nat) : Int) < (((l).length : Nat) : Int))) (yl_t (d := 17) rfl rfl) (fun hg => R_move (v := .int .i64 (((n : Nat) : Int))) rfl) ?_
    refine WL.gpure (gd := decide (((i : Nat) : Int) < (((l).length : Nat) : Int))) (yl_t (d := 17) rfl rfl) (fun hg => R_lss (a := ((i : Nat) : Int)) (b := ((n : Nat) : Int)) (gvT hg rfl) (gvT hg rfl)) ?_
    refine WL.val1 (R_and (cb := decide (((i : Nat) : Int) < (((l).length : Nat) : Int))) (yb := decide (((i : Nat) : Int) < ((n : Nat) : Int))) rfl rfl rfl) ?_
    refine WL.nil ?_
    refine then_normal ?_
    refine WC.condI ((((i : Nat) : Int) < (((l).length : Nat) : Int) ∧ ((i : Nat) : Int) < ((n : Nat) : Int))) (b := (decide (((i : Nat) : Int) < (((l).length : Nat) : Int)) && decide (((i : Nat) : Int) < ((n : Nat) : Int)))) rfl (b_and b_dec b_dec) (fun c0 => ?_) (fun c0 => ?_)
    · skip
      refine WC.skip ?_
      refine then_normal ?_
      refine WC.seq ?_
      refine WC.block ?_
      refine WC.seq ?_
      obtain ⟨z_l_i, hz_l_i⟩ : ∃ z, (l)[i]? = some z := ⟨_, List.getElem?_eq_getElem (by omega)⟩
      obtain ⟨b20, o21, cs25, ha22, hr23, hat24⟩ := (sl_l.mono hl6).2 i z_l_i hz_l_i
      obtain ⟨a26, c27, a28, c29, rfl, hs30, hs31⟩ := hr23
      refine WC.draw2 (J0 := fun h_ w_ => St Γ h_ (grow 35 RRec h5 (acc) (acc_a) (acc_c) :: L) w_) (J1 := fun h_ v_ w_ => ∃ b_, v_ = .pointer (some ⟨b_, 0, none⟩) ∧ St Γ h_ (row (b_) [.string (B (([] : Str))), .slice none 0 0, .slice none 0 0] 35 :: grow 35 RRec h5 (acc) (acc_a) (acc_c) :: L) w_) 15 14 7 [0, 1, 2, 3, 4, 5, 6, 7, 8, 9, 10, 11, 12, 13] [(0, .slice (l_a) (l).length (l_c)), (1, .int .i64 (((n : Nat) : Int))), (5, .slice (acc_a) (acc).length (acc_c)), (6, .int .i64 (((i : Nat) : Int)))] [fun _ v => v = .slice (l_a) (l).length (l_c), fun _ v => v = .int .i64 (((i : Nat) : Int)), fun _ v => v = .pointer (some ⟨b20, (o21 + i * RRec.n), none⟩), fun _ v => v = .pointer (some ⟨b20, (o21 + i * RRec.n), none⟩), fun _ v => v = .string (B (z_l_i.name)), fun _ v => v = .slice (l_a) (l).length (l_c), fun _ v => v = .int .i64 (((i : Nat) : Int)), fun _ v => v = .pointer (some ⟨b20, (o21 + i * RRec.n), none⟩), fun _ v => v = .pointer (some ⟨b20, (o21 + i * RRec.n), none⟩), fun _ v => v = .string (B (z_l_i.name)), fun _ v => v = .int .i64 ((((z_l_i.name).length : Nat) : Int)), fun _ v => v = .int .i64 ((min ((((z_l_i.name).length : Nat) : Int)) (120))), fun _ v => v = .string (B ((z_l_i.name.take (min ((z_l_i.name).length) (120))))), fun _ v => v = .agg #[.string (B ((z_l_i.name.take (min ((z_l_i.name).length) (120))))), .slice none 0 0, .slice none 0 0], fun _ _ => True] hS3 (fun _ _ _ e_ k_ => k_.ext e_) rfl (by decide) (by kernel_rfl) (by kernel_rfl) (by kernel_rfl) (MonoFs.pure (MonoFs.pure (MonoFs.pure (MonoFs.pure (MonoFs.pure (MonoFs.pure (MonoFs.pure (MonoFs.pure (MonoFs.pure (MonoFs.pure (MonoFs.pure (MonoFs.pure (MonoFs.pure (MonoFs.pure (MonoFs.pure MonoFs.nil))))))))))))))) ⟨rfl, rfl, rfl, rfl, trivial⟩ ⟨?_, ?_, ?_, ?_, ?_, ?_, ?_, ?_, ?_, ?_, ?_, ?_, ?_, ?_, ?_, trivial⟩ ?_
      · refine step2_late (by decide) ?_ ?_
        · intro r_ w83 h84 hl85 hS82 hb_ hp_
          obtain ⟨b0_, b1_, b2_, b3_, _⟩ := hb_
          refine WL.val1 (R_move (v := .slice (l_a) (l).length (l_c)) b0_) ?_
          refine WL.nil ?_
          exact ⟨rfl, _, _, rfl, (Hp.le_refl _), rfl, hS82⟩
        · intro r_ w87 h88 hl89 hJ_ hb_ hp_
          obtain ⟨b_, hv_, hS86⟩ := hJ_
          obtain ⟨b0_, b1_, b2_, b3_, _⟩ := hb_
          refine WL.val1 (R_move (v := .slice (l_a) (l).length (l_c)) b0_) ?_
          refine WL.nil ?_
          exact ⟨rfl, _, _, rfl, (Hp.le_refl _), rfl, b_, hv_, hS86⟩
      · refine step2_late (by decide) ?_ ?_
        · intro r_ w91 h92 hl93 hS90 hb_ hp_
          obtain ⟨b0_, b1_, b2_, b3_, _⟩ := hb_
          refine WL.val1 (R_move (v := .int .i64 (((i : Nat) : Int))) b3_) ?_
          refine WL.nil ?_
          exact ⟨rfl, _, _, rfl, (Hp.le_refl _), rfl, hS90⟩
        · intro r_ w95 h96 hl97 hJ_ hb_ hp_
          obtain ⟨b_, hv_, hS94⟩ := hJ_
          obtain ⟨b0_, b1_, b2_, b3_, _⟩ := hb_
          refine WL.val1 (R_move (v := .int .i64 (((i : Nat) : Int))) b3_) ?_
          refine WL.nil ?_
          exact ⟨rfl, _, _, rfl, (Hp.le_refl _), rfl, b_, hv_, hS94⟩
      · refine step2_late (by decide) ?_ ?_
        · intro r_ w99 h100 hl101 hS98 hb_ hp_
          obtain ⟨b0_, b1_, b2_, b3_, _⟩ := hb_
          obtain ⟨p0_, p1_, _⟩ := hp_
          have p0_ : r_ 24 = .slice (l_a) (l).length (l_c) := p0_
          have p1_ : r_ 25 = .int .i64 (((i : Nat) : Int)) := p1_
          refine WL.val1 (R_indexAddrE (i := ((i : Nat) : Int)) (m := i) ha22 p0_ p1_ Tryd.underlying22 (Tryd.sizeOf35 _) (by first | rfl | (omega)) (by omega)) ?_
          refine WL.nil ?_
          exact ⟨rfl, _, _, rfl, (Hp.le_refl _), rfl, hS98⟩
        · intro r_ w103 h104 hl105 hJ_ hb_ hp_
          obtain ⟨b_, hv_, hS102⟩ := hJ_
          obtain ⟨b0_, b1_, b2_, b3_, _⟩ := hb_
          obtain ⟨p0_, p1_, _⟩ := hp_
          have p0_ : r_ 24 = .slice (l_a) (l).length (l_c) := p0_
          have p1_ : r_ 25 = .int .i64 (((i : Nat) : Int)) := p1_
          refine WL.val1 (R_indexAddrE (i := ((i : Nat) : Int)) (m := i) ha22 p0_ p1_ Tryd.underlying22 (Tryd.sizeOf35 _) (by first | rfl | (omega)) (by omega)) ?_
          refine WL.nil ?_
          exact ⟨rfl, _, _, rfl, (Hp.le_refl _), rfl, b_, hv_, hS102⟩
      · refine step2_late (by decide) ?_ ?_
        · intro r_ w107 h108 hl109 hS106 hb_ hp_
          obtain ⟨b0_, b1_, b2_, b3_, _⟩ := hb_
          obtain ⟨p0_, _⟩ := hp_
          have p0_ : r_ 26 = .pointer (some ⟨b20, (o21 + i * RRec.n), none⟩) := p0_
          refine WL.val1 (R_fieldAddr (b := b20) (off := (o21 + i * RRec.n)) (m := 0) p0_ (fun _ => by kernel_rfl)) ?_
          refine WL.nil ?_
          exact ⟨rfl, _, _, rfl, (Hp.le_refl _), rfl, hS106⟩
        · intro r_ w111 h112 hl113 hJ_ hb_ hp_
          obtain ⟨b_, hv_, hS110⟩ := hJ_
          obtain ⟨b0_, b1_, b2_, b3_, _⟩ := hb_
          obtain ⟨p0_, _⟩ := hp_
          have p0_ : r_ 26 = .pointer (some ⟨b20, (o21 + i * RRec.n), none⟩) := p0_
          refine WL.val1 (R_fieldAddr (b := b20) (off := (o21 + i * RRec.n)) (m := 0) p0_ (fun _ => by kernel_rfl)) ?_
          refine WL.nil ?_
          exact ⟨rfl, _, _, rfl, (Hp.le_refl _), rfl, b_, hv_, hS110⟩
      · refine step2_late (by decide) ?_ ?_
        · intro r_ w115 h116 hl117 hS114 hb_ hp_
          obtain ⟨b0_, b1_, b2_, b3_, _⟩ := hb_
          obtain ⟨p0_, _⟩ := hp_
          have p0_ : r_ 27 = .pointer (some ⟨b20, (o21 + i * RRec.n), none⟩) := p0_
          refine WL.val1 (R_loadC (v := .string (B (z_l_i.name))) hS114 p0_ ((hat24.mono hl117).sub 0 1 (cs' := [.string (B (z_l_i.name))]) rfl) Tryd.isAgg9 rfl) ?_
          refine WL.nil ?_
          exact ⟨rfl, _, _, rfl, (Hp.le_refl _), rfl, hS114⟩
        · intro r_ w119 h120 hl121 hJ_ hb_ hp_
          obtain ⟨b_, hv_, hS118⟩ := hJ_
          obtain ⟨b0_, b1_, b2_, b3_, _⟩ := hb_
          obtain ⟨p0_, _⟩ := hp_
          have p0_ : r_ 27 = .pointer (some ⟨b20, (o21 + i * RRec.n), none⟩) := p0_
          refine WL.val1 (R_loadC (v := .string (B (z_l_i.name))) hS118 p0_ ((hat24.mono hl121).sub 0 1 (cs' := [.string (B (z_l_i.name))]) rfl) Tryd.isAgg9 rfl) ?_
          refine WL.nil ?_
          exact ⟨rfl, _, _, rfl, (Hp.le_refl _), rfl, b_, hv_, hS118⟩
      · refine step2_late (by decide) ?_ ?_
        · intro r_ w123 h124 hl125 hS122 hb_ hp_
          obtain ⟨b0_, b1_, b2_, b3_, _⟩ := hb_
          refine WL.val1 (R_move (v := .slice (l_a) (l).length (l_c)) b0_) ?_
          refine WL.nil ?_
          exact ⟨rfl, _, _, rfl, (Hp.le_refl _), rfl, hS122⟩
        · intro r_ w127 h128 hl129 hJ_ hb_ hp_
          obtain ⟨b_, hv_, hS126⟩ := hJ_
          obtain ⟨b0_, b1_, b2_, b3_, _⟩ := hb_
          refine WL.val1 (R_move (v := .slice (l_a) (l).length (l_c)) b0_) ?_
          refine WL.nil ?_
          exact ⟨rfl, _, _, rfl, (Hp.le_refl _), rfl, b_, hv_, hS126⟩
      · refine step2_late (by decide) ?_ ?_
        · intro r_ w131 h132 hl133 hS130 hb_ hp_
          obtain ⟨b0_, b1_, b2_, b3_, _⟩ := hb_
          refine WL.val1 (R_move (v := .int .i64 (((i : Nat) : Int))) b3_) ?_
          refine WL.nil ?_
          exact ⟨rfl, _, _, rfl, (Hp.le_refl _), rfl, hS130⟩
        · intro r_ w135 h136 hl137 hJ_ hb_ hp_
          obtain ⟨b_, hv_, hS134⟩ := hJ_
          obtain ⟨b0_, b1_, b2_, b3_, _⟩ := hb_
          refine WL.val1 (R_move (v := .int .i64 (((i : Nat) : Int))) b3_) ?_
          refine WL.nil ?_
          exact ⟨rfl, _, _, rfl, (Hp.le_refl _), rfl, b_, hv_, hS134⟩
      · refine step2_late (by decide) ?_ ?_
        · intro r_ w139 h140 hl141 hS138 hb_ hp_
          obtain ⟨b0_, b1_, b2_, b3_, _⟩ := hb_
          obtain ⟨p0_, p1_, _⟩ := hp_
          have p0_ : r_ 29 = .slice (l_a) (l).length (l_c) := p0_
          have p1_ : r_ 30 = .int .i64 (((i : Nat) : Int)) := p1_
          refine WL.val1 (R_indexAddrE (i := ((i : Nat) : Int)) (m := i) ha22 p0_ p1_ Tryd.underlying22 (Tryd.sizeOf35 _) (by first | rfl | (omega)) (by omega)) ?_
          refine WL.nil ?_
          exact ⟨rfl, _, _, rfl, (Hp.le_refl _), rfl, hS138⟩
        · intro r_ w143 h144 hl145 hJ_ hb_ hp_
          obtain ⟨b_, hv_, hS142⟩ := hJ_
          obtain ⟨b0_, b1_, b2_, b3_, _⟩ := hb_
          obtain ⟨p0_, p1_, _⟩ := hp_
          have p0_ : r_ 29 = .slice (l_a) (l).length (l_c) := p0_
          have p1_ : r_ 30 = .int .i64 (((i : Nat) : Int)) := p1_
          refine WL.val1 (R_indexAddrE (i := ((i : Nat) : Int)) (m := i) ha22 p0_ p1_ Tryd.underlying22 (Tryd.sizeOf35 _) (by first | rfl | (omega)) (by omega)) ?_
          refine WL.nil ?_
          exact ⟨rfl, _, _, rfl, (Hp.le_refl _), rfl, b_, hv_, hS142⟩
      · refine step2_late (by decide) ?_ ?_
        · intro r_ w147 h148 hl149 hS146 hb_ hp_
          obtain ⟨b0_, b1_, b2_, b3_, _⟩ := hb_
          obtain ⟨p0_, _⟩ := hp_
          have p0_ : r_ 31 = .pointer (some ⟨b20, (o21 + i * RRec.n), none⟩) := p0_
          refine WL.val1 (R_fieldAddr (b := b20) (off := (o21 + i * RRec.n)) (m := 0) p0_ (fun _ => by kernel_rfl)) ?_
          refine WL.nil ?_
          exact ⟨rfl, _, _, rfl, (Hp.le_refl _), rfl, hS146⟩
        · intro r_ w151 h152 hl153 hJ_ hb_ hp_
          obtain ⟨b_, hv_, hS150⟩ := hJ_
          obtain ⟨b0_, b1_, b2_, b3_, _⟩ := hb_
          obtain ⟨p0_, _⟩ := hp_
          have p0_ : r_ 31 = .pointer (some ⟨b20, (o21 + i * RRec.n), none⟩) := p0_
          refine WL.val1 (R_fieldAddr (b := b20) (off := (o21 + i * RRec.n)) (m := 0) p0_ (fun _ => by kernel_rfl)) ?_
          refine WL.nil ?_
          exact ⟨rfl, _, _, rfl, (Hp.le_refl _), rfl, b_, hv_, hS150⟩
      · refine step2_late (by decide) ?_ ?_
        · intro r_ w155 h156 hl157 hS154 hb_ hp_
          obtain ⟨b0_, b1_, b2_, b3_, _⟩ := hb_
          obtain ⟨p0_, _⟩ := hp_
          have p0_ : r_ 32 = .pointer (some ⟨b20, (o21 + i * RRec.n), none⟩) := p0_
          refine WL.val1 (R_loadC (v := .string (B (z_l_i.name))) hS154 p0_ ((hat24.mono hl157).sub 0 1 (cs' := [.string (B (z_l_i.name))]) rfl) Tryd.isAgg9 rfl) ?_
          refine WL.nil ?_
          exact ⟨rfl, _, _, rfl, (Hp.le_refl _), rfl, hS154⟩
        · intro r_ w159 h160 hl161 hJ_ hb_ hp_
          obtain ⟨b_, hv_, hS158⟩ := hJ_
          obtain ⟨b0_, b1_, b2_, b3_, _⟩ := hb_
          obtain ⟨p0_, _⟩ := hp_
          have p0_ : r_ 32 = .pointer (some ⟨b20, (o21 + i * RRec.n), none⟩) := p0_
          refine WL.val1 (R_loadC (v := .string (B (z_l_i.name))) hS158 p0_ ((hat24.mono hl161).sub 0 1 (cs' := [.string (B (z_l_i.name))]) rfl) Tryd.isAgg9 rfl) ?_
          refine WL.nil ?_
          exact ⟨rfl, _, _, rfl, (Hp.le_refl _), rfl, b_, hv_, hS158⟩
      · refine step2_late (by decide) ?_ ?_
        · intro r_ w163 h164 hl165 hS162 hb_ hp_
          obtain ⟨b0_, b1_, b2_, b3_, _⟩ := hb_
          obtain ⟨p0_, _⟩ := hp_
          have p0_ : r_ 33 = .string (B (z_l_i.name)) := p0_
          refine WL.val1 (R_slen (a := z_l_i.name) p0_ Tryd.underlying9) ?_
          refine WL.nil ?_
          exact ⟨rfl, _, _, rfl, (Hp.le_refl _), rfl, hS162⟩
        · intro r_ w167 h168 hl169 hJ_ hb_ hp_
          obtain ⟨b_, hv_, hS166⟩ := hJ_
          obtain ⟨b0_, b1_, b2_, b3_, _⟩ := hb_
          obtain ⟨p0_, _⟩ := hp_
          have p0_ : r_ 33 = .string (B (z_l_i.name)) := p0_
          refine WL.val1 (R_slen (a := z_l_i.name) p0_ Tryd.underlying9) ?_
          refine WL.nil ?_
          exact ⟨rfl, _, _, rfl, (Hp.le_refl _), rfl, b_, hv_, hS166⟩
      · refine step2_late (by decide) ?_ ?_
        · intro r_ w171 h172 hl173 hS170 hb_ hp_
          obtain ⟨b0_, b1_, b2_, b3_, _⟩ := hb_
          obtain ⟨p0_, _⟩ := hp_
          have p0_ : r_ 34 = .int .i64 ((((z_l_i.name).length : Nat) : Int)) := p0_
          refine WL.val1 (R_min (a := (((z_l_i.name).length : Nat) : Int)) (b := 120) p0_ rfl) ?_
          refine WL.nil ?_
          exact ⟨rfl, _, _, rfl, (Hp.le_refl _), rfl, hS170⟩
        · intro r_ w175 h176 hl177 hJ_ hb_ hp_
          obtain ⟨b_, hv_, hS174⟩ := hJ_
          obtain ⟨b0_, b1_, b2_, b3_, _⟩ := hb_
          obtain ⟨p0_, _⟩ := hp_
          have p0_ : r_ 34 = .int .i64 ((((z_l_i.name).length : Nat) : Int)) := p0_
          refine WL.val1 (R_min (a := (((z_l_i.name).length : Nat) : Int)) (b := 120) p0_ rfl) ?_
          refine WL.nil ?_
          exact ⟨rfl, _, _, rfl, (Hp.le_refl _), rfl, b_, hv_, hS174⟩
      · refine step2_late (by decide) ?_ ?_
        · intro r_ w179 h180 hl181 hS178 hb_ hp_
          obtain ⟨b0_, b1_, b2_, b3_, _⟩ := hb_
          obtain ⟨p0_, p1_, _⟩ := hp_
          have p0_ : r_ 28 = .string (B (z_l_i.name)) := p0_
          have p1_ : r_ 35 = .int .i64 ((min ((((z_l_i.name).length : Nat) : Int)) (120))) := p1_
          refine WL.val1 (R_sslice_h (a := z_l_i.name) (j := (min ((((z_l_i.name).length : Nat) : Int)) (120))) (n := (min ((z_l_i.name).length) (120))) p0_ p1_ Tryd.underlying9 (by first | rfl | (omega)) (by omega)) ?_
          refine WL.nil ?_
          exact ⟨rfl, _, _, rfl, (Hp.le_refl _), rfl, hS178⟩
        · intro r_ w183 h184 hl185 hJ_ hb_ hp_
          obtain ⟨b_, hv_, hS182⟩ := hJ_
          obtain ⟨b0_, b1_, b2_, b3_, _⟩ := hb_
          obtain ⟨p0_, p1_, _⟩ := hp_
          have p0_ : r_ 28 = .string (B (z_l_i.name)) := p0_
          have p1_ : r_ 35 = .int .i64 ((min ((((z_l_i.name).length : Nat) : Int)) (120))) := p1_
          refine WL.val1 (R_sslice_h (a := z_l_i.name) (j := (min ((((z_l_i.name).length : Nat) : Int)) (120))) (n := (min ((z_l_i.name).length) (120))) p0_ p1_ Tryd.underlying9 (by first | rfl | (omega)) (by omega)) ?_
          refine WL.nil ?_
          exact ⟨rfl, _, _, rfl, (Hp.le_refl _), rfl, b_, hv_, hS182⟩
      · refine step2_late (by decide) ?_ ?_
        · intro r_ w187 h188 hl189 hS186 hb_ hp_
          obtain ⟨b0_, b1_, b2_, b3_, _⟩ := hb_
          obtain ⟨p0_, _⟩ := hp_
          have p0_ : r_ 36 = .string (B ((z_l_i.name.take (min ((z_l_i.name).length) (120))))) := p0_
          refine WL.val1 (R_build (vs := [(0, .string (B ((z_l_i.name.take (min ((z_l_i.name).length) (120))))))]) (v := .agg #[.string (B ((z_l_i.name.take (min ((z_l_i.name).length) (120))))), .slice none 0 0, .slice none 0 0]) (pmap1 p0_) (fun _ => by kernel_rfl)) ?_
          refine WL.nil ?_
          exact ⟨rfl, _, _, rfl, (Hp.le_refl _), rfl, hS186⟩
        · intro r_ w191 h192 hl193 hJ_ hb_ hp_
          obtain ⟨b_, hv_, hS190⟩ := hJ_
          obtain ⟨b0_, b1_, b2_, b3_, _⟩ := hb_
          obtain ⟨p0_, _⟩ := hp_
          have p0_ : r_ 36 = .string (B ((z_l_i.name.take (min ((z_l_i.name).length) (120))))) := p0_
          refine WL.val1 (R_build (vs := [(0, .string (B ((z_l_i.name.take (min ((z_l_i.name).length) (120))))))]) (v := .agg #[.string (B ((z_l_i.name.take (min ((z_l_i.name).length) (120))))), .slice none 0 0, .slice none 0 0]) (pmap1 p0_) (fun _ => by kernel_rfl)) ?_
          refine WL.nil ?_
          exact ⟨rfl, _, _, rfl, (Hp.le_refl _), rfl, b_, hv_, hS190⟩
      · refine step2_s (by decide) ?_
        · intro r_ w195 h196 hl197 hS194 hb_ hp_
          obtain ⟨b0_, b1_, b2_, b3_, _⟩ := hb_
          refine S_alloc hS194 Tryd.zeroValue35 ?_
          intro w199 hS198
          refine WL.nil ?_
          exact ⟨rfl, _, _, rfl, (Hp.le_refl _), trivial, w195.heap.size, rfl, hS198⟩
      · intro r_ w201 h202 hl203 hJ_ hb_ hf_
        obtain ⟨a204, qs_, hS200⟩ := hJ_
        obtain ⟨b0_, b1_, b2_, b3_, _⟩ := hb_
        obtain ⟨q0_, q1_, q2_, q3_, q4_, q5_, q6_, q7_, q8_, q9_, q10_, q11_, q12_, q13_, q14_, _⟩ := hf_
        refine WL.frame [(0, .slice (l_a) (l).length (l_c)), (1, .int .i64 (((n : Nat) : Int))), (5, .slice (acc_a) (acc).length (acc_c)), (6, .int .i64 (((i : Nat) : Int))), (7, .pointer (some ⟨a204, 0, none⟩)), (24, .slice (l_a) (l).length (l_c)), (25, .int .i64 (((i : Nat) : Int))), (26, .pointer (some ⟨b20, (o21 + i * RRec.n), none⟩)), (27, .pointer (some ⟨b20, (o21 + i * RRec.n), none⟩)), (28, .string (B (z_l_i.name))), (29, .slice (l_a) (l).length (l_c)), (30, .int .i64 (((i : Nat) : Int))), (31, .pointer (some ⟨b20, (o21 + i * RRec.n), none⟩)), (32, .pointer (some ⟨b20, (o21 + i * RRec.n), none⟩)), (33, .string (B (z_l_i.name))), (34, .int .i64 ((((z_l_i.name).length : Nat) : Int))), (35, .int .i64 ((min ((((z_l_i.name).length : Nat) : Int)) (120)))), (36, .string (B ((z_l_i.name.take (min ((z_l_i.name).length) (120)))))), (37, .agg #[.string (B ((z_l_i.name.take (min ((z_l_i.name).length) (120))))), .slice none 0 0, .slice none 0 0])] ⟨b0_, b1_, b2_, b3_, qs_, q0_, q1_, q2_, q3_, q4_, q5_, q6_, q7_, q8_, q9_, q10_, q11_, q12_, q13_, trivial⟩ (fun r_ => ?_)
        refine S_store (i := 0) (b := a204) (l := [.string (B (([] : Str))), .slice none 0 0, .slice none 0 0]) (l' := [.string (B ((z_l_i.name.take (min ((z_l_i.name).length) (120))))), .slice none 0 0, .slice none 0 0]) (vs := [.string (B ((z_l_i.name.take (min ((z_l_i.name).length) (120))))), .slice none 0 0, .slice none 0 0]) (v := .agg #[.string (B ((z_l_i.name.take (min ((z_l_i.name).length) (120))))), .slice none 0 0, .slice none 0 0]) hS200 rfl rfl rfl Tryd.sizeOf35 rfl rfl rfl (Nat.le_of_ble_eq_true rfl) rfl rfl ?_
        intro w207 hS206
        refine WL.nil ?_
        refine then_normal ?_
        refine WC.seq ?_
        refine WC.seq ?_
        refine WC.region ?_
        refine WL.val1 (R_assign (v := .int .i64 (0)) rfl) ?_
        refine WL.nil ?_
        refine then_normal ?_
        refine WC.block ?_
        have hS208 := hS206.growNil 51 RSeen h202
        have hS209 := hS208.growMono (i := 2) rfl hl203
        refine WC.loopL (σ := Nat × (List Seen) × (Option Addr) × Nat)
          (fun (q_ : Nat × (List Seen) × (Option Addr) × Nat) => (fun (j : Nat) (sn : List Seen) (sn_a : Option Addr) (sn_c : Nat) => [(0, .slice (l_a) (l).length (l_c)), (1, .int .i64 (((n : Nat) : Int))), (5, .slice (acc_a) (acc).length (acc_c)), (6, .int .i64 (((i : Nat) : Int))), (7, .pointer (some ⟨a204, 0, none⟩)), (8, .int .i64 (((j : Nat) : Int)))]) (q_.1) (q_.2.1) (q_.2.2.1) (q_.2.2.2))
          (fun (q_ : Nat × (List Seen) × (Option Addr) × Nat) (w_ : World) => (fun (j : Nat) (sn : List Seen) (sn_a : Option Addr) (sn_c : Nat) => ∃ h212 : Hp, h202.le h212 ∧ St Γ h212 (grow 51 RSeen h212 (sn) (sn_a) (sn_c) :: row (a204) [.string (B ((z_l_i.name.take (min ((z_l_i.name).length) (120))))), .slice (sn_a) (sn).length (sn_c), .slice none 0 0] 35 :: grow 35 RRec h212 (acc) (acc_a) (acc_c) :: L) w_ ∧ (j ≤ z_l_i.seens.length ∧ j ≤ 8) ∧ (sn = ((z_l_i.seens.take 8).take j).map cutSeen)) (q_.1) (q_.2.1) (q_.2.2.1) (q_.2.2.2))
          (fun (q_ : Nat × (List Seen) × (Option Addr) × Nat) => (fun (j : Nat) (sn : List Seen) (sn_a : Option Addr) (sn_c : Nat) => z_l_i.seens.length - j) (q_.1) (q_.2.1) (q_.2.2.1) (q_.2.2.2)) (0, ([] : List Seen), none, 0) ?_ ?_ ?_
        · exact ⟨rfl, rfl, rfl, rfl, rfl, (by first | rfl | (apply congrArg (Value.int .i64); omega) | simp), trivial⟩
        · exact ⟨h202, Hp.le_refl _, hS209, (by first | assumption | omega | simp), (by rw [List.take_zero]; rfl)⟩
        · rintro ⟨j, sn, sn_a, sn_c⟩ r214 w211 ⟨h212, hl213, hS210, g1, g2⟩
          try dsimp only at g1 g2
          have g4 : sn.length = j := by rw [g2, List.length_map, List.length_take, List.length_take]; omega
          refine WC.seq ?_
          refine WC.seq ?_
          refine WC.region ?_
          refine WL.val1 (R_move (v := .int .i64 (((j : Nat) : Int))) rfl) ?_
          refine WL.val1 (R_move (v := .slice (l_a) (l).length (l_c)) rfl) ?_
          refine WL.val1 (R_move (v := .int .i64 (((i : Nat) : Int))) rfl) ?_
          refine WL.val1 (R_indexAddrE (i := ((i : Nat) : Int)) (m := i) ha22 rfl rfl Tryd.underlying22 (Tryd.sizeOf35 _) (by first | rfl | (omega)) (by omega)) ?_
          refine WL.val1 (R_fieldAddr (b := b20) (off := (o21 + i * RRec.n)) (m := 1) rfl (fun _ => by kernel_rfl)) ?_
          refine WL.val1 (R_loadC (v := .slice (a26) (z_l_i.seens).length (c27)) hS210 rfl ((hat24.mono (hl203.trans hl213)).sub 1 1 (cs' := [.slice (a26) (z_l_i.seens).length (c27)]) rfl) Tryd.isAgg30 rfl) ?_
          refine WL.val1 (R_len_slice (n := (z_l_i.seens).length) rfl Tryd.underlying30) ?_
          refine WL.val1 (R_lss (a := ((j : Nat) : Int)) (b := (((z_l_i.seens).length : Nat) : Int)) rfl rfl) ?_
          refine WL.val1 (R_move (v := .bool (decide (((j : Nat) : Int) < (((z_l_i.seens).length : Nat) : Int)))) rfl) ?_
          refine WL.gpure (gd := decide (((j : Nat) : Int) < (((z_l_i.seens).length : Nat) : Int))) (yl_t (d := 46) rfl rfl) (fun hg => R_move (v := .int .i64 (((j : Nat) : Int))) rfl) ?_
          refine WL.gpure (gd := decide (((j : Nat) : Int) < (((z_l_i.seens).length : Nat) : Int))) (yl_t (d := 46) rfl rfl) (fun hg => R_lss (a := ((j : Nat) : Int)) (b := 8) (gvT hg rfl) rfl) ?_
          refine WL.val1 (R_and (cb := decide (((j : Nat) : Int) < (((z_l_i.seens).length : Nat) : Int))) (yb := decide (((j : Nat) : Int) < 8)) rfl rfl rfl) ?_
          refine WL.nil ?_
          refine then_normal ?_
          refine WC.condI ((((j : Nat) : Int) < (((z_l_i.seens).length : Nat) : Int) ∧ ((j : Nat) : Int) < 8)) (b := (decide (((j : Nat) : Int) < (((z_l_i.seens).length : Nat) : Int)) && decide (((j : Nat) : Int) < 8))) rfl (b_and b_dec b_dec) (fun c1 => ?_) (fun c1 => ?_)
          · skip
            refine WC.skip ?_
            refine then_normal ?_
            refine WC.seq ?_
            refine WC.block ?_
            refine WC.seq ?_
            refine WC.region ?_
            refine WL.val1 (R_move (v := .slice (l_a) (l).length (l_c)) rfl) ?_
            refine WL.val1 (R_move (v := .int .i64 (((i : Nat) : Int))) rfl) ?_
            refine WL.val1 (R_indexAddrE (i := ((i : Nat) : Int)) (m := i) ha22 rfl rfl Tryd.underlying22 (Tryd.sizeOf35 _) (by first | rfl | (omega)) (by omega)) ?_
            refine WL.val1 (R_fieldAddr (b := b20) (off := (o21 + i * RRec.n)) (m := 1) rfl (fun _ => by kernel_rfl)) ?_
            refine WL.val1 (R_loadC (v := .slice (a26) (z_l_i.seens).length (c27)) hS210 rfl ((hat24.mono (hl203.trans hl213)).sub 1 1 (cs' := [.slice (a26) (z_l_i.seens).length (c27)]) rfl) Tryd.isAgg30 rfl) ?_
            refine WL.val1 (R_move (v := .int .i64 (((j : Nat) : Int))) rfl) ?_
            obtain ⟨z_z_l_i_seens_j, hz_z_l_i_seens_j⟩ : ∃ z, (z_l_i.seens)[j]? = some z := ⟨_, List.getElem?_eq_getElem (by omega)⟩
            obtain ⟨b215, o216, cs220, ha217, hr218, hat219⟩ := (hs30.mono (hl203.trans hl213)).2 j z_z_l_i_seens_j hz_z_l_i_seens_j
            subst hr218
            refine WL.val1 (R_indexAddrE (i := ((j : Nat) : Int)) (m := j) ha217 rfl rfl Tryd.underlying30 (Tryd.sizeOf51 _) (by first | rfl | (omega)) (by omega)) ?_
            refine WL.val1 (R_loadCA (cs := [.string (B (z_z_l_i_seens_j.name)), .bool (z_z_l_i_seens_j.there), .string (B (z_z_l_i_seens_j.text))]) hS210 rfl hat219 Tryd.isAgg51 Tryd.sizeOf51 rfl) ?_
            refine S_alloc hS210 Tryd.zeroValue51 ?_
            intro w222 hS221
            refine S_store (i := 0) (b := w211.heap.size) (l := [.string (B (([] : Str))), .bool (false), .string (B (([] : Str)))]) (l' := [.string (B (z_z_l_i_seens_j.name)), .bool (z_z_l_i_seens_j.there), .string (B (z_z_l_i_seens_j.text))]) (vs := [.string (B (z_z_l_i_seens_j.name)), .bool (z_z_l_i_seens_j.there), .string (B (z_z_l_i_seens_j.text))]) (v := .agg #[.string (B (z_z_l_i_seens_j.name)), .bool (z_z_l_i_seens_j.there), .string (B (z_z_l_i_seens_j.text))]) hS221 rfl rfl rfl Tryd.sizeOf51 rfl rfl rfl (Nat.le_of_ble_eq_true rfl) rfl rfl ?_
            intro w224 hS223
            refine WL.nil ?_
            refine then_normal ?_
            refine WC.draw 20 [(0, .slice (l_a) (l).length (l_c)), (1, .int .i64 (((n : Nat) : Int))), (5, .slice (acc_a) (acc).length (acc_c)), (6, .int .i64 (((i : Nat) : Int))), (7, .pointer (some ⟨a204, 0, none⟩)), (8, .int .i64 (((j : Nat) : Int))), (9, .pointer (some ⟨w211.heap.size, 0, none⟩))] ((fun _ v => v = .pointer (some ⟨a204, 1, none⟩)) :: (fun _ v => v = .slice (sn_a) (sn).length (sn_c)) :: (fun _ v => v = .pointer (some ⟨w211.heap.size, 0, none⟩)) :: (fun _ v => v = .string (B (z_z_l_i_seens_j.name))) :: (fun _ v => v = .pointer (some ⟨w211.heap.size, 0, none⟩)) :: (fun _ v => v = .string (B (z_z_l_i_seens_j.name))) :: (fun _ v => v = .int .i64 ((((z_z_l_i_seens_j.name).length : Nat) : Int))) :: (fun _ v => v = .int .i64 ((min ((((z_z_l_i_seens_j.name).length : Nat) : Int)) (120)))) :: (fun _ v => v = .string (B ((z_z_l_i_seens_j.name.take (min ((z_z_l_i_seens_j.name).length) (120)))))) :: (fun _ v => v = .pointer (some ⟨w211.heap.size, 1, none⟩)) :: (fun _ v => v = .bool (z_z_l_i_seens_j.there)) :: (fun _ v => v = .pointer (some ⟨w211.heap.size, 2, none⟩)) :: (fun _ v => v = .string (B (z_z_l_i_seens_j.text))) :: (fun _ v => v = .pointer (some ⟨w211.heap.size, 2, none⟩)) :: (fun _ v => v = .string (B (z_z_l_i_seens_j.text))) :: (fun _ v => v = .int .i64 ((((z_z_l_i_seens_j.text).length : Nat) : Int))) :: (fun _ v => v = .int .i64 ((min ((((z_z_l_i_seens_j.text).length : Nat) : Int)) (120)))) :: (fun _ v => v = .string (B ((z_z_l_i_seens_j.text.take (min ((z_z_l_i_seens_j.text).length) (120)))))) :: (fun _ v => v = .agg #[.string (B ((z_z_l_i_seens_j.name.take (min ((z_z_l_i_seens_j.name).length) (120))))), .bool (z_z_l_i_seens_j.there), .string (B ((z_z_l_i_seens_j.text.take (min ((z_z_l_i_seens_j.text).length) (120)))))]) :: (fun h v => ∃ (b0_ : Nat), v = .slice (some ⟨b0_, 0, none⟩) 1 (1) ∧ Sl RSeen h ([{ name := (z_z_l_i_seens_j.name.take (min ((z_z_l_i_seens_j.name).length) (120))), there := z_z_l_i_seens_j.there, text := (z_z_l_i_seens_j.text.take (min ((z_z_l_i_seens_j.text).length) (120))) : Seen }]) (some ⟨b0_, 0, none⟩) (1)) :: []) hS223 (by kernel_rfl) (by kernel_rfl) (MonoFs.pure (MonoFs.pure (MonoFs.pure (MonoFs.pure (MonoFs.pure (MonoFs.pure (MonoFs.pure (MonoFs.pure (MonoFs.pure (MonoFs.pure (MonoFs.pure (MonoFs.pure (MonoFs.pure (MonoFs.pure (MonoFs.pure (MonoFs.pure (MonoFs.pure (MonoFs.pure (MonoFs.pure (MonoFs.cons (fun _ _ _ hl ⟨x0, e, y0⟩ => ⟨x0, e, y0.mono hl⟩) MonoFs.nil)))))))))))))))))))) ⟨rfl, rfl, rfl, rfl, rfl, rfl, rfl, trivial⟩ ⟨?_, ?_, ?_, ?_, ?_, ?_, ?_, ?_, ?_, ?_, ?_, ?_, ?_, ?_, ?_, ?_, ?_, ?_, ?_, ?_, trivial⟩ ?_
            · intro r_ w315 h316 hl317 hS314 hb_ hp_
              obtain ⟨b0_, b1_, b2_, b3_, b4_, b5_, b6_, _⟩ := hb_
              refine WL.val1 (R_fieldAddr (b := a204) (off := 0) (m := 1) b4_ (fun _ => by kernel_rfl)) ?_
              refine WL.nil ?_
              exact ⟨rfl, _, _, rfl, (Hp.le_refl _), rfl, hS314⟩
            · intro r_ w319 h320 hl321 hS318 hb_ hp_
              obtain ⟨b0_, b1_, b2_, b3_, b4_, b5_, b6_, _⟩ := hb_
              obtain ⟨p0_, _⟩ := hp_
              have p0_ : r_ 60 = .pointer (some ⟨a204, 1, none⟩) := p0_
              refine WL.val1 (R_load (v := .slice (sn_a) (sn).length (sn_c)) p0_ (hS318.has (i := 2) rfl) (Tryd.isAgg30 _) rfl) ?_
              refine WL.nil ?_
              exact ⟨rfl, _, _, rfl, (Hp.le_refl _), rfl, hS318⟩
            · intro r_ w323 h324 hl325 hS322 hb_ hp_
              obtain ⟨b0_, b1_, b2_, b3_, b4_, b5_, b6_, _⟩ := hb_
              refine WL.val1 (R_fieldAddr (b := w211.heap.size) (off := 0) (m := 0) b6_ (fun _ => by kernel_rfl)) ?_
              refine WL.nil ?_
              exact ⟨rfl, _, _, rfl, (Hp.le_refl _), rfl, hS322⟩
            · intro r_ w327 h328 hl329 hS326 hb_ hp_
              obtain ⟨b0_, b1_, b2_, b3_, b4_, b5_, b6_, _⟩ := hb_
              obtain ⟨p0_, _⟩ := hp_
              have p0_ : r_ 62 = .pointer (some ⟨w211.heap.size, 0, none⟩) := p0_
              refine WL.val1 (R_load (v := .string (B (z_z_l_i_seens_j.name))) p0_ (hS326.has (i := 0) rfl) (Tryd.isAgg9 _) rfl) ?_
              refine WL.nil ?_
              exact ⟨rfl, _, _, rfl, (Hp.le_refl _), rfl, hS326⟩
            · intro r_ w331 h332 hl333 hS330 hb_ hp_
              obtain ⟨b0_, b1_, b2_, b3_, b4_, b5_, b6_, _⟩ := hb_
              refine WL.val1 (R_fieldAddr (b := w211.heap.size) (off := 0) (m := 0) b6_ (fun _ => by kernel_rfl)) ?_
              refine WL.nil ?_
              exact ⟨rfl, _, _, rfl, (Hp.le_refl _), rfl, hS330⟩
            · intro r_ w335 h336 hl337 hS334 hb_ hp_
              obtain ⟨b0_, b1_, b2_, b3_, b4_, b5_, b6_, _⟩ := hb_
              obtain ⟨p0_, _⟩ := hp_
              have p0_ : r_ 64 = .pointer (some ⟨w211.heap.size, 0, none⟩) := p0_
              refine WL.val1 (R_load (v := .string (B (z_z_l_i_seens_j.name))) p0_ (hS334.has (i := 0) rfl) (Tryd.isAgg9 _) rfl) ?_
              refine WL.nil ?_
              exact ⟨rfl, _, _, rfl, (Hp.le_refl _), rfl, hS334⟩
            · intro r_ w339 h340 hl341 hS338 hb_ hp_
              obtain ⟨b0_, b1_, b2_, b3_, b4_, b5_, b6_, _⟩ := hb_
              obtain ⟨p0_, _⟩ := hp_
              have p0_ : r_ 65 = .string (B (z_z_l_i_seens_j.name)) := p0_
              refine WL.val1 (R_slen (a := z_z_l_i_seens_j.name) p0_ Tryd.underlying9) ?_
              refine WL.nil ?_
              exact ⟨rfl, _, _, rfl, (Hp.le_refl _), rfl, hS338⟩
            · intro r_ w343 h344 hl345 hS342 hb_ hp_
              obtain ⟨b0_, b1_, b2_, b3_, b4_, b5_, b6_, _⟩ := hb_
              obtain ⟨p0_, _⟩ := hp_
              have p0_ : r_ 66 = .int .i64 ((((z_z_l_i_seens_j.name).length : Nat) : Int)) := p0_
              refine WL.val1 (R_min (a := (((z_z_l_i_seens_j.name).length : Nat) : Int)) (b := 120) p0_ rfl) ?_
              refine WL.nil ?_
              exact ⟨rfl, _, _, rfl, (Hp.le_refl _), rfl, hS342⟩
            · intro r_ w347 h348 hl349 hS346 hb_ hp_
              obtain ⟨b0_, b1_, b2_, b3_, b4_, b5_, b6_, _⟩ := hb_
              obtain ⟨p0_, p1_, _⟩ := hp_
              have p0_ : r_ 63 = .string (B (z_z_l_i_seens_j.name)) := p0_
              have p1_ : r_ 67 = .int .i64 ((min ((((z_z_l_i_seens_j.name).length : Nat) : Int)) (120))) := p1_
              refine WL.val1 (R_sslice_h (a := z_z_l_i_seens_j.name) (j := (min ((((z_z_l_i_seens_j.name).length : Nat) : Int)) (120))) (n := (min ((z_z_l_i_seens_j.name).length) (120))) p0_ p1_ Tryd.underlying9 (by first | rfl | (omega)) (by omega)) ?_
              refine WL.nil ?_
              exact ⟨rfl, _, _, rfl, (Hp.le_refl _), rfl, hS346⟩
            · intro r_ w351 h352 hl353 hS350 hb_ hp_
              obtain ⟨b0_, b1_, b2_, b3_, b4_, b5_, b6_, _⟩ := hb_
              refine WL.val1 (R_fieldAddr (b := w211.heap.size) (off := 0) (m := 1) b6_ (fun _ => by kernel_rfl)) ?_
              refine WL.nil ?_
              exact ⟨rfl, _, _, rfl, (Hp.le_refl _), rfl, hS350⟩
            · intro r_ w355 h356 hl357 hS354 hb_ hp_
              obtain ⟨b0_, b1_, b2_, b3_, b4_, b5_, b6_, _⟩ := hb_
              obtain ⟨p0_, _⟩ := hp_
              have p0_ : r_ 69 = .pointer (some ⟨w211.heap.size, 1, none⟩) := p0_
              refine WL.val1 (R_load (v := .bool (z_z_l_i_seens_j.there)) p0_ (hS354.has (i := 0) rfl) (Tryd.isAgg4 _) rfl) ?_
              refine WL.nil ?_
              exact ⟨rfl, _, _, rfl, (Hp.le_refl _), rfl, hS354⟩
            · intro r_ w359 h360 hl361 hS358 hb_ hp_
              obtain ⟨b0_, b1_, b2_, b3_, b4_, b5_, b6_, _⟩ := hb_
              refine WL.val1 (R_fieldAddr (b := w211.heap.size) (off := 0) (m := 2) b6_ (fun _ => by kernel_rfl)) ?_
              refine WL.nil ?_
              exact ⟨rfl, _, _, rfl, (Hp.le_refl _), rfl, hS358⟩
            · intro r_ w363 h364 hl365 hS362 hb_ hp_
              obtain ⟨b0_, b1_, b2_, b3_, b4_, b5_, b6_, _⟩ := hb_
              obtain ⟨p0_, _⟩ := hp_
              have p0_ : r_ 71 = .pointer (some ⟨w211.heap.size, 2, none⟩) := p0_
              refine WL.val1 (R_load (v := .string (B (z_z_l_i_seens_j.text))) p0_ (hS362.has (i := 0) rfl) (Tryd.isAgg9 _) rfl) ?_
              refine WL.nil ?_
              exact ⟨rfl, _, _, rfl, (Hp.le_refl _), rfl, hS362⟩
            · intro r_ w367 h368 hl369 hS366 hb_ hp_
              obtain ⟨b0_, b1_, b2_, b3_, b4_, b5_, b6_, _⟩ := hb_
              refine WL.val1 (R_fieldAddr (b := w211.heap.size) (off := 0) (m := 2) b6_ (fun _ => by kernel_rfl)) ?_
              refine WL.nil ?_
              exact ⟨rfl, _, _, rfl, (Hp.le_refl _), rfl, hS366⟩
            · intro r_ w371 h372 hl373 hS370 hb_ hp_
              obtain ⟨b0_, b1_, b2_, b3_, b4_, b5_, b6_, _⟩ := hb_
              obtain ⟨p0_, _⟩ := hp_
              have p0_ : r_ 73 = .pointer (some ⟨w211.heap.size, 2, none⟩) := p0_
              refine WL.val1 (R_load (v := .string (B (z_z_l_i_seens_j.text))) p0_ (hS370.has (i := 0) rfl) (Tryd.isAgg9 _) rfl) ?_
              refine WL.nil ?_
              exact ⟨rfl, _, _, rfl, (Hp.le_refl _), rfl, hS370⟩
            · intro r_ w375 h376 hl377 hS374 hb_ hp_
              obtain ⟨b0_, b1_, b2_, b3_, b4_, b5_, b6_, _⟩ := hb_
              obtain ⟨p0_, _⟩ := hp_
              have p0_ : r_ 74 = .string (B (z_z_l_i_seens_j.text)) := p0_
              refine WL.val1 (R_slen (a := z_z_l_i_seens_j.text) p0_ Tryd.underlying9) ?_
              refine WL.nil ?_
              exact ⟨rfl, _, _, rfl, (Hp.le_refl _), rfl, hS374⟩
            · intro r_ w379 h380 hl381 hS378 hb_ hp_
              obtain ⟨b0_, b1_, b2_, b3_, b4_, b5_, b6_, _⟩ := hb_
              obtain ⟨p0_, _⟩ := hp_
              have p0_ : r_ 75 = .int .i64 ((((z_z_l_i_seens_j.text).length : Nat) : Int)) := p0_
              refine WL.val1 (R_min (a := (((z_z_l_i_seens_j.text).length : Nat) : Int)) (b := 120) p0_ rfl) ?_
              refine WL.nil ?_
              exact ⟨rfl, _, _, rfl, (Hp.le_refl _), rfl, hS378⟩
            · intro r_ w383 h384 hl385 hS382 hb_ hp_
              obtain ⟨b0_, b1_, b2_, b3_, b4_, b5_, b6_, _⟩ := hb_
              obtain ⟨p0_, p1_, _⟩ := hp_
              have p0_ : r_ 72 = .string (B (z_z_l_i_seens_j.text)) := p0_
              have p1_ : r_ 76 = .int .i64 ((min ((((z_z_l_i_seens_j.text).length : Nat) : Int)) (120))) := p1_
              refine WL.val1 (R_sslice_h (a := z_z_l_i_seens_j.text) (j := (min ((((z_z_l_i_seens_j.text).length : Nat) : Int)) (120))) (n := (min ((z_z_l_i_seens_j.text).length) (120))) p0_ p1_ Tryd.underlying9 (by first | rfl | (omega)) (by omega)) ?_
              refine WL.nil ?_
              exact ⟨rfl, _, _, rfl, (Hp.le_refl _), rfl, hS382⟩
            · intro r_ w387 h388 hl389 hS386 hb_ hp_
              obtain ⟨b0_, b1_, b2_, b3_, b4_, b5_, b6_, _⟩ := hb_
              obtain ⟨p0_, p1_, p2_, _⟩ := hp_
              have p0_ : r_ 68 = .string (B ((z_z_l_i_seens_j.name.take (min ((z_z_l_i_seens_j.name).length) (120))))) := p0_
              have p1_ : r_ 70 = .bool (z_z_l_i_seens_j.there) := p1_
              have p2_ : r_ 77 = .string (B ((z_z_l_i_seens_j.text.take (min ((z_z_l_i_seens_j.text).length) (120))))) := p2_
              refine WL.val1 (R_build (vs := [(0, .string (B ((z_z_l_i_seens_j.name.take (min ((z_z_l_i_seens_j.name).length) (120)))))), (1, .bool (z_z_l_i_seens_j.there)), (2, .string (B ((z_z_l_i_seens_j.text.take (min ((z_z_l_i_seens_j.text).length) (120))))))]) (v := .agg #[.string (B ((z_z_l_i_seens_j.name.take (min ((z_z_l_i_seens_j.name).length) (120))))), .bool (z_z_l_i_seens_j.there), .string (B ((z_z_l_i_seens_j.text.take (min ((z_z_l_i_seens_j.text).length) (120)))))]) (pmap3 p0_ p1_ p2_) (fun _ => by kernel_rfl)) ?_
              refine WL.nil ?_
              exact ⟨rfl, _, _, rfl, (Hp.le_refl _), rfl, hS386⟩
            · intro r_ w391 h392 hl393 hS390 hb_ hp_
              obtain ⟨b0_, b1_, b2_, b3_, b4_, b5_, b6_, _⟩ := hb_
              obtain ⟨p0_, _⟩ := hp_
              have p0_ : r_ 78 = .agg #[.string (B ((z_z_l_i_seens_j.name.take (min ((z_z_l_i_seens_j.name).length) (120))))), .bool (z_z_l_i_seens_j.there), .string (B ((z_z_l_i_seens_j.text.take (min ((z_z_l_i_seens_j.text).length) (120)))))] := p0_
              refine S_buildSliceC (R := RSeen) (m := 1) (vs := [(0, .agg #[.string (B ((z_z_l_i_seens_j.name.take (min ((z_z_l_i_seens_j.name).length) (120))))), .bool (z_z_l_i_seens_j.there), .string (B ((z_z_l_i_seens_j.text.take (min ((z_z_l_i_seens_j.text).length) (120)))))])]) (cells := [.string (B ((z_z_l_i_seens_j.name.take (min ((z_z_l_i_seens_j.name).length) (120))))), .bool (z_z_l_i_seens_j.there), .string (B ((z_z_l_i_seens_j.text.take (min ((z_z_l_i_seens_j.text).length) (120)))))]) (xs := [{ name := (z_z_l_i_seens_j.name.take (min ((z_z_l_i_seens_j.name).length) (120))), there := z_z_l_i_seens_j.there, text := (z_z_l_i_seens_j.text.take (min ((z_z_l_i_seens_j.text).length) (120))) : Seen }]) hS390 Tryd.underlying30 Tryd.sizeOf51 Tryd.zeroValue51 (by decide) (by decide) (pmap1 (v := .agg #[.string (B ((z_z_l_i_seens_j.name.take (min ((z_z_l_i_seens_j.name).length) (120))))), .bool (z_z_l_i_seens_j.there), .string (B ((z_z_l_i_seens_j.text.take (min ((z_z_l_i_seens_j.text).length) (120)))))]) p0_) (by kernel_rfl) (by exact (⟨[.string (B ((z_z_l_i_seens_j.name.take (min ((z_z_l_i_seens_j.name).length) (120))))), .bool (z_z_l_i_seens_j.there), .string (B ((z_z_l_i_seens_j.text.take (min ((z_z_l_i_seens_j.text).length) (120)))))], _, rfl, rfl, rfl⟩ : Flat RSeen _ [{ name := (z_z_l_i_seens_j.name.take (min ((z_z_l_i_seens_j.name).length) (120))), there := z_z_l_i_seens_j.there, text := (z_z_l_i_seens_j.text.take (min ((z_z_l_i_seens_j.text).length) (120))) : Seen }] _)) rfl ?_
              intro h396 b398 w395 hl397 hs399 hS394
              refine WL.nil ?_
              exact ⟨rfl, _, _, rfl, hl397, ⟨b398, rfl, hs399⟩, hS394⟩
            · intro r_ w403 h404 hl405 hS402 hb_ hf_
              obtain ⟨b0_, b1_, b2_, b3_, b4_, b5_, b6_, _⟩ := hb_
              obtain ⟨q0_, q1_, q2_, q3_, q4_, q5_, q6_, q7_, q8_, q9_, q10_, q11_, q12_, q13_, q14_, q15_, q16_, q17_, q18_, q19_, _⟩ := hf_
              obtain ⟨b406, q19_, hs407⟩ := q19_
              refine WL.frame (((0, .slice (l_a) (l).length (l_c))) :: ((1, .int .i64 (((n : Nat) : Int)))) :: ((5, .slice (acc_a) (acc).length (acc_c))) :: ((6, .int .i64 (((i : Nat) : Int)))) :: ((7, .pointer (some ⟨a204, 0, none⟩))) :: ((8, .int .i64 (((j : Nat) : Int)))) :: ((9, .pointer (some ⟨w211.heap.size, 0, none⟩))) :: ((60, .pointer (some ⟨a204, 1, none⟩))) :: ((61, .slice (sn_a) (sn).length (sn_c))) :: ((62, .pointer (some ⟨w211.heap.size, 0, none⟩))) :: ((63, .string (B (z_z_l_i_seens_j.name)))) :: ((64, .pointer (some ⟨w211.heap.size, 0, none⟩))) :: ((65, .string (B (z_z_l_i_seens_j.name)))) :: ((66, .int .i64 ((((z_z_l_i_seens_j.name).length : Nat) : Int)))) :: ((67, .int .i64 ((min ((((z_z_l_i_seens_j.name).length : Nat) : Int)) (120))))) :: ((68, .string (B ((z_z_l_i_seens_j.name.take (min ((z_z_l_i_seens_j.name).length) (120))))))) :: ((69, .pointer (some ⟨w211.heap.size, 1, none⟩))) :: ((70, .bool (z_z_l_i_seens_j.there))) :: ((71, .pointer (some ⟨w211.heap.size, 2, none⟩))) :: ((72, .string (B (z_z_l_i_seens_j.text)))) :: ((73, .pointer (some ⟨w211.heap.size, 2, none⟩))) :: ((74, .string (B (z_z_l_i_seens_j.text)))) :: ((75, .int .i64 ((((z_z_l_i_seens_j.text).length : Nat) : Int)))) :: ((76, .int .i64 ((min ((((z_z_l_i_seens_j.text).length : Nat) : Int)) (120))))) :: ((77, .string (B ((z_z_l_i_seens_j.text.take (min ((z_z_l_i_seens_j.text).length) (120))))))) :: ((78, .agg #[.string (B ((z_z_l_i_seens_j.name.take (min ((z_z_l_i_seens_j.name).length) (120))))), .bool (z_z_l_i_seens_j.there), .string (B ((z_z_l_i_seens_j.text.take (min ((z_z_l_i_seens_j.text).length) (120)))))])) :: ((79, .slice (some ⟨b406, 0, none⟩) 1 (1))) :: []) ⟨b0_, b1_, b2_, b3_, b4_, b5_, b6_, q0_, q1_, q2_, q3_, q4_, q5_, q6_, q7_, q8_, q9_, q10_, q11_, q12_, q13_, q14_, q15_, q16_, q17_, q18_, q19_, trivial⟩ (fun r_ => ?_)
              refine S_append (info := Tryd.t51) (R := RSeen) (xs := sn) (ys := [{ name := (z_z_l_i_seens_j.name.take (min ((z_z_l_i_seens_j.name).length) (120))), there := z_z_l_i_seens_j.there, text := (z_z_l_i_seens_j.text.take (min ((z_z_l_i_seens_j.text).length) (120))) : Seen }]) (a := sn_a) (c := sn_c) 1 Tryd.underlying30 (by kernel_rfl) rfl rfl rfl (by decide) 40 rfl hS402 rfl hl405 hs407 rfl rfl (by (try simp only [List.length_append, List.length_cons, List.length_nil]); omega) (by (try simp only [List.length_append, List.length_cons, List.length_nil]); omega) ?_
              intro a408 c409 w410 hS411
              refine WL.val1 (R_fieldAddr (b := a204) (off := 0) (m := 1) rfl (fun _ => by kernel_rfl)) ?_
              refine S_store (i := 2) (b := a204) (l := [.string (B ((z_l_i.name.take (min ((z_l_i.name).length) (120))))), .slice (sn_a) (sn).length (sn_c), .slice none 0 0]) (l' := [.string (B ((z_l_i.name.take (min ((z_l_i.name).length) (120))))), .slice (a408) ((sn ++ [{ name := (z_z_l_i_seens_j.name.take (min ((z_z_l_i_seens_j.name).length) (120))), there := z_z_l_i_seens_j.there, text := (z_z_l_i_seens_j.text.take (min ((z_z_l_i_seens_j.text).length) (120))) : Seen }])).length (c409), .slice none 0 0]) (vs := [.slice (a408) ((sn ++ [{ name := (z_z_l_i_seens_j.name.take (min ((z_z_l_i_seens_j.name).length) (120))), there := z_z_l_i_seens_j.there, text := (z_z_l_i_seens_j.text.take (min ((z_z_l_i_seens_j.text).length) (120))) : Seen }])).length (c409)]) (v := .slice (a408) ((sn ++ [{ name := (z_z_l_i_seens_j.name.take (min ((z_z_l_i_seens_j.name).length) (120))), there := z_z_l_i_seens_j.there, text := (z_z_l_i_seens_j.text.take (min ((z_z_l_i_seens_j.text).length) (120))) : Seen }])).length (c409)) hS411 rfl rfl rfl Tryd.sizeOf30 rfl rfl rfl (Nat.le_of_ble_eq_true rfl) rfl rfl ?_
              intro w413 hS412
              refine WL.nil ?_
              refine block_normal ?_
              refine then_normal ?_
              refine WC.region ?_
              refine WL.val1 (R_move (v := .int .i64 (((j : Nat) : Int))) rfl) ?_
              refine WL.val1 (R_add_i (a := ((j : Nat) : Int)) (b := 1) rfl rfl (by omega)) ?_
              refine WL.val1 (R_assign (v := .int .i64 ((((j : Nat) : Int) + 1))) rfl) ?_
              refine WL.nil ?_
              refine then_normal ?_
              have hS414 := hS412.growMono (i := 3) rfl hl405
              exact ⟨(j + 1, (sn ++ [{ name := (z_z_l_i_seens_j.name.take (min ((z_z_l_i_seens_j.name).length) (120))), there := z_z_l_i_seens_j.there, text := (z_z_l_i_seens_j.text.take (min ((z_z_l_i_seens_j.text).length) (120))) : Seen }]), a408, c409), ⟨rfl, rfl, rfl, rfl, rfl, (by first | rfl | (apply congrArg (Value.int .i64); omega) | simp), trivial⟩, ⟨h404, (hl213.trans hl405), hS414.pop, (by (try dsimp only); first | assumption | omega | simp), (by (try dsimp only); rw [g2, map_take_step hz_z_l_i_seens_j (by omega)]; rfl)⟩, (by first | (simp only []; omega) | (simp; omega))⟩
          · skip
            refine WC.exit ?_
            refine then_exit ?_
            refine then_exit ?_
            refine block_exit ?_
            refine then_normal ?_
            refine WC.seq ?_
            refine WC.seq ?_
            have g3_ : sn = (z_l_i.seens.take 8).map cutSeen := by rw [g2]; exact map_take_end (by omega)
            refine WC.region ?_
            refine WL.val1 (R_assign (v := .int .i64 (0)) rfl) ?_
            refine WL.nil ?_
            refine then_normal ?_
            refine WC.block ?_
            have hS415 := hS210.growNil 53 RFile h212
            refine WC.loopL (σ := Nat × (List File) × (Option Addr) × Nat)
              (fun (q_ : Nat × (List File) × (Option Addr) × Nat) => (fun (k : Nat) (fl : List File) (fl_a : Option Addr) (fl_c : Nat) => [(0, .slice (l_a) (l).length (l_c)), (1, .int .i64 (((n : Nat) : Int))), (5, .slice (acc_a) (acc).length (acc_c)), (6, .int .i64 (((i : Nat) : Int))), (7, .pointer (some ⟨a204, 0, none⟩)), (10, .int .i64 (((k : Nat) : Int)))]) (q_.1) (q_.2.1) (q_.2.2.1) (q_.2.2.2))
              (fun (q_ : Nat × (List File) × (Option Addr) × Nat) (w_ : World) => (fun (k : Nat) (fl : List File) (fl_a : Option Addr) (fl_c : Nat) => ∃ h418 : Hp, h212.le h418 ∧ St Γ h418 (grow 53 RFile h418 (fl) (fl_a) (fl_c) :: grow 51 RSeen h418 (sn) (sn_a) (sn_c) :: row (a204) [.string (B ((z_l_i.name.take (min ((z_l_i.name).length) (120))))), .slice (sn_a) (sn).length (sn_c), .slice (fl_a) (fl).length (fl_c)] 35 :: grow 35 RRec h418 (acc) (acc_a) (acc_c) :: L) w_ ∧ (k ≤ z_l_i.files.length ∧ k ≤ 6) ∧ (fl = ((z_l_i.files.take 6).take k).map cutFile)) (q_.1) (q_.2.1) (q_.2.2.1) (q_.2.2.2))
              (fun (q_ : Nat × (List File) × (Option Addr) × Nat) => (fun (k : Nat) (fl : List File) (fl_a : Option Addr) (fl_c : Nat) => z_l_i.files.length - k) (q_.1) (q_.2.1) (q_.2.2.1) (q_.2.2.2)) (0, ([] : List File), none, 0) ?_ ?_ ?_
            · exact ⟨rfl, rfl, rfl, rfl, rfl, (by first | rfl | (apply congrArg (Value.int .i64); omega) | simp), trivial⟩
            · exact ⟨h212, Hp.le_refl _, hS415, (by first | assumption | omega | simp), (by rw [List.take_zero]; rfl)⟩
            · rintro ⟨k, fl, fl_a, fl_c⟩ r420 w417 ⟨h418, hl419, hS416, k1, k2⟩
              try dsimp only at k1 k2
              have k4 : fl.length = k := by rw [k2, List.length_map, List.length_take, List.length_take]; omega
              refine WC.seq ?_
              refine WC.seq ?_
              refine WC.region ?_
              refine WL.val1 (R_move (v := .int .i64 (((k : Nat) : Int))) rfl) ?_
              refine WL.val1 (R_move (v := .slice (l_a) (l).length (l_c)) rfl) ?_
              refine WL.val1 (R_move (v := .int .i64 (((i : Nat) : Int))) rfl) ?_
              refine WL.val1 (R_indexAddrE (i := ((i : Nat) : Int)) (m := i) ha22 rfl rfl Tryd.underlying22 (Tryd.sizeOf35 _) (by first | rfl | (omega)) (by omega)) ?_
              refine WL.val1 (R_fieldAddr (b := b20) (off := (o21 + i * RRec.n)) (m := 2) rfl (fun _ => by kernel_rfl)) ?_
              refine WL.val1 (R_loadC (v := .slice (a28) (z_l_i.files).length (c29)) hS416 rfl ((hat24.mono ((hl203.trans hl213).trans hl419)).sub 2 1 (cs' := [.slice (a28) (z_l_i.files).length (c29)]) rfl) Tryd.isAgg23 rfl) ?_
              refine WL.val1 (R_len_slice (n := (z_l_i.files).length) rfl Tryd.underlying23) ?_
              refine WL.val1 (R_lss (a := ((k : Nat) : Int)) (b := (((z_l_i.files).length : Nat) : Int)) rfl rfl) ?_
              refine WL.val1 (R_move (v := .bool (decide (((k : Nat) : Int) < (((z_l_i.files).length : Nat) : Int)))) rfl) ?_
              refine WL.gpure (gd := decide (((k : Nat) : Int) < (((z_l_i.files).length : Nat) : Int))) (yl_t (d := 90) rfl rfl) (fun hg => R_move (v := .int .i64 (((k : Nat) : Int))) rfl) ?_
              refine WL.gpure (gd := decide (((k : Nat) : Int) < (((z_l_i.files).length : Nat) : Int))) (yl_t (d := 90) rfl rfl) (fun hg => R_lss (a := ((k : Nat) : Int)) (b := 6) (gvT hg rfl) rfl) ?_
              refine WL.val1 (R_and (cb := decide (((k : Nat) : Int) < (((z_l_i.files).length : Nat) : Int))) (yb := decide (((k : Nat) : Int) < 6)) rfl rfl rfl) ?_
              refine WL.nil ?_
              refine then_normal ?_
              refine WC.condI ((((k : Nat) : Int) < (((z_l_i.files).length : Nat) : Int) ∧ ((k : Nat) : Int) < 6)) (b := (decide (((k : Nat) : Int) < (((z_l_i.files).length : Nat) : Int)) && decide (((k : Nat) : Int) < 6))) rfl (b_and b_dec b_dec) (fun c2 => ?_) (fun c2 => ?_)
              · skip
                refine WC.skip ?_
                refine then_normal ?_
                refine WC.seq ?_
                refine WC.block ?_
                refine WC.seq ?_
                refine WC.region ?_
                refine WL.val1 (R_move (v := .slice (l_a) (l).length (l_c)) rfl) ?_
                refine WL.val1 (R_move (v := .int .i64 (((i : Nat) : Int))) rfl) ?_
                refine WL.val1 (R_indexAddrE (i := ((i : Nat) : Int)) (m := i) ha22 rfl rfl Tryd.underlying22 (Tryd.sizeOf35 _) (by first | rfl | (omega)) (by omega)) ?_
                refine WL.val1 (R_fieldAddr (b := b20) (off := (o21 + i * RRec.n)) (m := 2) rfl (fun _ => by kernel_rfl)) ?_
                refine WL.val1 (R_loadC (v := .slice (a28) (z_l_i.files).length (c29)) hS416 rfl ((hat24.mono ((hl203.trans hl213).trans hl419)).sub 2 1 (cs' := [.slice (a28) (z_l_i.files).length (c29)]) rfl) Tryd.isAgg23 rfl) ?_
                refine WL.val1 (R_move (v := .int .i64 (((k : Nat) : Int))) rfl) ?_
                obtain ⟨z_z_l_i_files_k, hz_z_l_i_files_k⟩ : ∃ z, (z_l_i.files)[k]? = some z := ⟨_, List.getElem?_eq_getElem (by omega)⟩
                obtain ⟨b421, o422, cs426, ha423, hr424, hat425⟩ := (hs31.mono ((hl203.trans hl213).trans hl419)).2 k z_z_l_i_files_k hz_z_l_i_files_k
                subst hr424
                refine WL.val1 (R_indexAddrE (i := ((k : Nat) : Int)) (m := k) ha423 rfl rfl Tryd.underlying23 (Tryd.sizeOf53 _) (by first | rfl | (omega)) (by omega)) ?_
                refine WL.val1 (R_loadCA (cs := [.string (B (z_z_l_i_files_k.name)), .string (B (z_z_l_i_files_k.text))]) hS416 rfl hat425 Tryd.isAgg53 Tryd.sizeOf53 rfl) ?_
                refine S_alloc hS416 Tryd.zeroValue53 ?_
                intro w428 hS427
                refine S_store (i := 0) (b := w417.heap.size) (l := [.string (B (([] : Str))), .string (B (([] : Str)))]) (l' := [.string (B (z_z_l_i_files_k.name)), .string (B (z_z_l_i_files_k.text))]) (vs := [.string (B (z_z_l_i_files_k.name)), .string (B (z_z_l_i_files_k.text))]) (v := .agg #[.string (B (z_z_l_i_files_k.name)), .string (B (z_z_l_i_files_k.text))]) hS427 rfl rfl rfl Tryd.sizeOf53 rfl rfl rfl (Nat.le_of_ble_eq_true rfl) rfl rfl ?_
                intro w430 hS429
                refine WL.nil ?_
                refine then_normal ?_
                refine WC.draw 18 [(0, .slice (l_a) (l).length (l_c)), (1, .int .i64 (((n : Nat) : Int))), (5, .slice (acc_a) (acc).length (acc_c)), (6, .int .i64 (((i : Nat) : Int))), (7, .pointer (some ⟨a204, 0, none⟩)), (10, .int .i64 (((k : Nat) : Int))), (11, .pointer (some ⟨w417.heap.size, 0, none⟩))] [fun _ v => v = .pointer (some ⟨a204, 2, none⟩), fun _ v => v = .slice (fl_a) (fl).length (fl_c), fun _ v => v = .pointer (some ⟨w417.heap.size, 0, none⟩), fun _ v => v = .string (B (z_z_l_i_files_k.name)), fun _ v => v = .pointer (some ⟨w417.heap.size, 0, none⟩), fun _ v => v = .string (B (z_z_l_i_files_k.name)), fun _ v => v = .int .i64 ((((z_z_l_i_files_k.name).length : Nat) : Int)), fun _ v => v = .int .i64 ((min ((((z_z_l_i_files_k.name).length : Nat) : Int)) (120))), fun _ v => v = .string (B ((z_z_l_i_files_k.name.take (min ((z_z_l_i_files_k.name).length) (120))))), fun _ v => v = .pointer (some ⟨w417.heap.size, 1, none⟩), fun _ v => v = .string (B (z_z_l_i_files_k.text)), fun _ v => v = .pointer (some ⟨w417.heap.size, 1, none⟩), fun _ v => v = .string (B (z_z_l_i_files_k.text)), fun _ v => v = .int .i64 ((((z_z_l_i_files_k.text).length : Nat) : Int)), fun _ v => v = .int .i64 ((min ((((z_z_l_i_files_k.text).length : Nat) : Int)) (120))), fun _ v => v = .string (B ((z_z_l_i_files_k.text.take (min ((z_z_l_i_files_k.text).length) (120))))), fun _ v => v = .agg #[.string (B ((z_z_l_i_files_k.name.take (min ((z_z_l_i_files_k.name).length) (120))))), .string (B ((z_z_l_i_files_k.text.take (min ((z_z_l_i_files_k.text).length) (120)))))], fun h v => ∃ (b0_ : Nat), v = .slice (some ⟨b0_, 0, none⟩) 1 (1) ∧ Sl RFile h ([{ name := (z_z_l_i_files_k.name.take (min ((z_z_l_i_files_k.name).length) (120))), text := (z_z_l_i_files_k.text.take (min ((z_z_l_i_files_k.text).length) (120))) : File }]) (some ⟨b0_, 0, none⟩) (1)] hS429 (by kernel_rfl) (by kernel_rfl) (MonoFs.pure (MonoFs.pure (MonoFs.pure (MonoFs.pure (MonoFs.pure (MonoFs.pure (MonoFs.pure (MonoFs.pure (MonoFs.pure (MonoFs.pure (MonoFs.pure (MonoFs.pure (MonoFs.pure (MonoFs.pure (MonoFs.pure (MonoFs.pure (MonoFs.pure (MonoFs.cons (fun _ _ _ hl ⟨x0, e, y0⟩ => ⟨x0, e, y0.mono hl⟩) MonoFs.nil)))))))))))))))))) ⟨rfl, rfl, rfl, rfl, rfl, rfl, rfl, trivial⟩ ⟨?_, ?_, ?_, ?_, ?_, ?_, ?_, ?_, ?_, ?_, ?_, ?_, ?_, ?_, ?_, ?_, ?_, ?_, trivial⟩ ?_
                · intro r_ w513 h514 hl515 hS512 hb_ hp_
                  obtain ⟨b0_, b1_, b2_, b3_, b4_, b5_, b6_, _⟩ := hb_
                  refine WL.val1 (R_fieldAddr (b := a204) (off := 0) (m := 2) b4_ (fun _ => by kernel_rfl)) ?_
                  refine WL.nil ?_
                  exact ⟨rfl, _, _, rfl, (Hp.le_refl _), rfl, hS512⟩
                · intro r_ w517 h518 hl519 hS516 hb_ hp_
                  obtain ⟨b0_, b1_, b2_, b3_, b4_, b5_, b6_, _⟩ := hb_
                  obtain ⟨p0_, _⟩ := hp_
                  have p0_ : r_ 104 = .pointer (some ⟨a204, 2, none⟩) := p0_
                  refine WL.val1 (R_load (v := .slice (fl_a) (fl).length (fl_c)) p0_ (hS516.has (i := 3) rfl) (Tryd.isAgg23 _) rfl) ?_
                  refine WL.nil ?_
                  exact ⟨rfl, _, _, rfl, (Hp.le_refl _), rfl, hS516⟩
                · intro r_ w521 h522 hl523 hS520 hb_ hp_
                  obtain ⟨b0_, b1_, b2_, b3_, b4_, b5_, b6_, _⟩ := hb_
                  refine WL.val1 (R_fieldAddr (b := w417.heap.size) (off := 0) (m := 0) b6_ (fun _ => by kernel_rfl)) ?_
                  refine WL.nil ?_
                  exact ⟨rfl, _, _, rfl, (Hp.le_refl _), rfl, hS520⟩
                · intro r_ w525 h526 hl527 hS524 hb_ hp_
                  obtain ⟨b0_, b1_, b2_, b3_, b4_, b5_, b6_, _⟩ := hb_
                  obtain ⟨p0_, _⟩ := hp_
                  have p0_ : r_ 106 = .pointer (some ⟨w417.heap.size, 0, none⟩) := p0_
                  refine WL.val1 (R_load (v := .string (B (z_z_l_i_files_k.name))) p0_ (hS524.has (i := 0) rfl) (Tryd.isAgg9 _) rfl) ?_
                  refine WL.nil ?_
                  exact ⟨rfl, _, _, rfl, (Hp.le_refl _), rfl, hS524⟩
                · intro r_ w529 h530 hl531 hS528 hb_ hp_
                  obtain ⟨b0_, b1_, b2_, b3_, b4_, b5_, b6_, _⟩ := hb_
                  refine WL.val1 (R_fieldAddr (b := w417.heap.size) (off := 0) (m := 0) b6_ (fun _ => by kernel_rfl)) ?_
                  refine WL.nil ?_
                  exact ⟨rfl, _, _, rfl, (Hp.le_refl _), rfl, hS528⟩
                · intro r_ w533 h534 hl535 hS532 hb_ hp_
                  obtain ⟨b0_, b1_, b2_, b3_, b4_, b5_, b6_, _⟩ := hb_
                  obtain ⟨p0_, _⟩ := hp_
                  have p0_ : r_ 108 = .pointer (some ⟨w417.heap.size, 0, none⟩) := p0_
                  refine WL.val1 (R_load (v := .string (B (z_z_l_i_files_k.name))) p0_ (hS532.has (i := 0) rfl) (Tryd.isAgg9 _) rfl) ?_
                  refine WL.nil ?_
                  exact ⟨rfl, _, _, rfl, (Hp.le_refl _), rfl, hS532⟩
                · intro r_ w537 h538 hl539 hS536 hb_ hp_
                  obtain ⟨b0_, b1_, b2_, b3_, b4_, b5_, b6_, _⟩ := hb_
                  obtain ⟨p0_, _⟩ := hp_
                  have p0_ : r_ 109 = .string (B (z_z_l_i_files_k.name)) := p0_
                  refine WL.val1 (R_slen (a := z_z_l_i_files_k.name) p0_ Tryd.underlying9) ?_
                  refine WL.nil ?_
                  exact ⟨rfl, _, _, rfl, (Hp.le_refl _), rfl, hS536⟩
                · intro r_ w541 h542 hl543 hS540 hb_ hp_
                  obtain ⟨b0_, b1_, b2_, b3_, b4_, b5_, b6_, _⟩ := hb_
                  obtain ⟨p0_, _⟩ := hp_
                  have p0_ : r_ 110 = .int .i64 ((((z_z_l_i_files_k.name).length : Nat) : Int)) := p0_
                  refine WL.val1 (R_min (a := (((z_z_l_i_files_k.name).length : Nat) : Int)) (b := 120) p0_ rfl) ?_
                  refine WL.nil ?_
                  exact ⟨rfl, _, _, rfl, (Hp.le_refl _), rfl, hS540⟩
                · intro r_ w545 h546 hl547 hS544 hb_ hp_
                  obtain ⟨b0_, b1_, b2_, b3_, b4_, b5_, b6_, _⟩ := hb_
                  obtain ⟨p0_, p1_, _⟩ := hp_
                  have p0_ : r_ 107 = .string (B (z_z_l_i_files_k.name)) := p0_
                  have p1_ : r_ 111 = .int .i64 ((min ((((z_z_l_i_files_k.name).length : Nat) : Int)) (120))) := p1_
                  refine WL.val1 (R_sslice_h (a := z_z_l_i_files_k.name) (j := (min ((((z_z_l_i_files_k.name).length : Nat) : Int)) (120))) (n := (min ((z_z_l_i_files_k.name).length) (120))) p0_ p1_ Tryd.underlying9 (by first | rfl | (omega)) (by omega)) ?_
                  refine WL.nil ?_
                  exact ⟨rfl, _, _, rfl, (Hp.le_refl _), rfl, hS544⟩
                · intro r_ w549 h550 hl551 hS548 hb_ hp_
                  obtain ⟨b0_, b1_, b2_, b3_, b4_, b5_, b6_, _⟩ := hb_
                  refine WL.val1 (R_fieldAddr (b := w417.heap.size) (off := 0) (m := 1) b6_ (fun _ => by kernel_rfl)) ?_
                  refine WL.nil ?_
                  exact ⟨rfl, _, _, rfl, (Hp.le_refl _), rfl, hS548⟩
                · intro r_ w553 h554 hl555 hS552 hb_ hp_
                  obtain ⟨b0_, b1_, b2_, b3_, b4_, b5_, b6_, _⟩ := hb_
                  obtain ⟨p0_, _⟩ := hp_
                  have p0_ : r_ 113 = .pointer (some ⟨w417.heap.size, 1, none⟩) := p0_
                  refine WL.val1 (R_load (v := .string (B (z_z_l_i_files_k.text))) p0_ (hS552.has (i := 0) rfl) (Tryd.isAgg9 _) rfl) ?_
                  refine WL.nil ?_
                  exact ⟨rfl, _, _, rfl, (Hp.le_refl _), rfl, hS552⟩
                · intro r_ w557 h558 hl559 hS556 hb_ hp_
                  obtain ⟨b0_, b1_, b2_, b3_, b4_, b5_, b6_, _⟩ := hb_
                  refine WL.val1 (R_fieldAddr (b := w417.heap.size) (off := 0) (m := 1) b6_ (fun _ => by kernel_rfl)) ?_
                  refine WL.nil ?_
                  exact ⟨rfl, _, _, rfl, (Hp.le_refl _), rfl, hS556⟩
                · intro r_ w561 h562 hl563 hS560 hb_ hp_
                  obtain ⟨b0_, b1_, b2_, b3_, b4_, b5_, b6_, _⟩ := hb_
                  obtain ⟨p0_, _⟩ := hp_
                  have p0_ : r_ 115 = .pointer (some ⟨w417.heap.size, 1, none⟩) := p0_
                  refine WL.val1 (R_load (v := .string (B (z_z_l_i_files_k.text))) p0_ (hS560.has (i := 0) rfl) (Tryd.isAgg9 _) rfl) ?_
                  refine WL.nil ?_
                  exact ⟨rfl, _, _, rfl, (Hp.le_refl _), rfl, hS560⟩
                · intro r_ w565 h566 hl567 hS564 hb_ hp_
                  obtain ⟨b0_, b1_, b2_, b3_, b4_, b5_, b6_, _⟩ := hb_
                  obtain ⟨p0_, _⟩ := hp_
                  have p0_ : r_ 116 = .string (B (z_z_l_i_files_k.text)) := p0_
                  refine WL.val1 (R_slen (a := z_z_l_i_files_k.text) p0_ Tryd.underlying9) ?_
                  refine WL.nil ?_
                  exact ⟨rfl, _, _, rfl, (Hp.le_refl _), rfl, hS564⟩
                · intro r_ w569 h570 hl571 hS568 hb_ hp_
                  obtain ⟨b0_, b1_, b2_, b3_, b4_, b5_, b6_, _⟩ := hb_
                  obtain ⟨p0_, _⟩ := hp_
                  have p0_ : r_ 117 = .int .i64 ((((z_z_l_i_files_k.text).length : Nat) : Int)) := p0_
                  refine WL.val1 (R_min (a := (((z_z_l_i_files_k.text).length : Nat) : Int)) (b := 120) p0_ rfl) ?_
                  refine WL.nil ?_
                  exact ⟨rfl, _, _, rfl, (Hp.le_refl _), rfl, hS568⟩
                · intro r_ w573 h574 hl575 hS572 hb_ hp_
                  obtain ⟨b0_, b1_, b2_, b3_, b4_, b5_, b6_, _⟩ := hb_
                  obtain ⟨p0_, p1_, _⟩ := hp_
                  have p0_ : r_ 114 = .string (B (z_z_l_i_files_k.text)) := p0_
                  have p1_ : r_ 118 = .int .i64 ((min ((((z_z_l_i_files_k.text).length : Nat) : Int)) (120))) := p1_
                  refine WL.val1 (R_sslice_h (a := z_z_l_i_files_k.text) (j := (min ((((z_z_l_i_files_k.text).length : Nat) : Int)) (120))) (n := (min ((z_z_l_i_files_k.text).length) (120))) p0_ p1_ Tryd.underlying9 (by first | rfl | (omega)) (by omega)) ?_
                  refine WL.nil ?_
                  exact ⟨rfl, _, _, rfl, (Hp.le_refl _), rfl, hS572⟩
                · intro r_ w577 h578 hl579 hS576 hb_ hp_
                  obtain ⟨b0_, b1_, b2_, b3_, b4_, b5_, b6_, _⟩ := hb_
                  obtain ⟨p0_, p1_, _⟩ := hp_
                  have p0_ : r_ 112 = .string (B ((z_z_l_i_files_k.name.take (min ((z_z_l_i_files_k.name).length) (120))))) := p0_
                  have p1_ : r_ 119 = .string (B ((z_z_l_i_files_k.text.take (min ((z_z_l_i_files_k.text).length) (120))))) := p1_
                  refine WL.val1 (R_build (vs := [(0, .string (B ((z_z_l_i_files_k.name.take (min ((z_z_l_i_files_k.name).length) (120)))))), (1, .string (B ((z_z_l_i_files_k.text.take (min ((z_z_l_i_files_k.text).length) (120))))))]) (v := .agg #[.string (B ((z_z_l_i_files_k.name.take (min ((z_z_l_i_files_k.name).length) (120))))), .string (B ((z_z_l_i_files_k.text.take (min ((z_z_l_i_files_k.text).length) (120)))))]) (pmap2 p0_ p1_) (fun _ => by kernel_rfl)) ?_
                  refine WL.nil ?_
                  exact ⟨rfl, _, _, rfl, (Hp.le_refl _), rfl, hS576⟩
                · intro r_ w581 h582 hl583 hS580 hb_ hp_
                  obtain ⟨b0_, b1_, b2_, b3_, b4_, b5_, b6_, _⟩ := hb_
                  obtain ⟨p0_, _⟩ := hp_
                  have p0_ : r_ 120 = .agg #[.string (B ((z_z_l_i_files_k.name.take (min ((z_z_l_i_files_k.name).length) (120))))), .string (B ((z_z_l_i_files_k.text.take (min ((z_z_l_i_files_k.text).length) (120)))))] := p0_
                  refine S_buildSliceC (R := RFile) (m := 1) (vs := [(0, .agg #[.string (B ((z_z_l_i_files_k.name.take (min ((z_z_l_i_files_k.name).length) (120))))), .string (B ((z_z_l_i_files_k.text.take (min ((z_z_l_i_files_k.text).length) (120)))))])]) (cells := [.string (B ((z_z_l_i_files_k.name.take (min ((z_z_l_i_files_k.name).length) (120))))), .string (B ((z_z_l_i_files_k.text.take (min ((z_z_l_i_files_k.text).length) (120)))))]) (xs := [{ name := (z_z_l_i_files_k.name.take (min ((z_z_l_i_files_k.name).length) (120))), text := (z_z_l_i_files_k.text.take (min ((z_z_l_i_files_k.text).length) (120))) : File }]) hS580 Tryd.underlying23 Tryd.sizeOf53 Tryd.zeroValue53 (by decide) (by decide) (pmap1 (v := .agg #[.string (B ((z_z_l_i_files_k.name.take (min ((z_z_l_i_files_k.name).length) (120))))), .string (B ((z_z_l_i_files_k.text.take (min ((z_z_l_i_files_k.text).length) (120)))))]) p0_) (by kernel_rfl) (by exact (⟨[.string (B ((z_z_l_i_files_k.name.take (min ((z_z_l_i_files_k.name).length) (120))))), .string (B ((z_z_l_i_files_k.text.take (min ((z_z_l_i_files_k.text).length) (120)))))], _, rfl, rfl, rfl⟩ : Flat RFile _ [{ name := (z_z_l_i_files_k.name.take (min ((z_z_l_i_files_k.name).length) (120))), text := (z_z_l_i_files_k.text.take (min ((z_z_l_i_files_k.text).length) (120))) : File }] _)) rfl ?_
                  intro h586 b588 w585 hl587 hs589 hS584
                  refine WL.nil ?_
                  exact ⟨rfl, _, _, rfl, hl587, ⟨b588, rfl, hs589⟩, hS584⟩
                · intro r_ w593 h594 hl595 hS592 hb_ hf_
                  obtain ⟨b0_, b1_, b2_, b3_, b4_, b5_, b6_, _⟩ := hb_
                  obtain ⟨q0_, q1_, q2_, q3_, q4_, q5_, q6_, q7_, q8_, q9_, q10_, q11_, q12_, q13_, q14_, q15_, q16_, q17_, _⟩ := hf_
                  obtain ⟨b596, q17_, hs597⟩ := q17_
                  refine WL.frame (((0, .slice (l_a) (l).length (l_c))) :: ((1, .int .i64 (((n : Nat) : Int)))) :: ((5, .slice (acc_a) (acc).length (acc_c))) :: ((6, .int .i64 (((i : Nat) : Int)))) :: ((7, .pointer (some ⟨a204, 0, none⟩))) :: ((10, .int .i64 (((k : Nat) : Int)))) :: ((11, .pointer (some ⟨w417.heap.size, 0, none⟩))) :: ((104, .pointer (some ⟨a204, 2, none⟩))) :: ((105, .slice (fl_a) (fl).length (fl_c))) :: ((106, .pointer (some ⟨w417.heap.size, 0, none⟩))) :: ((107, .string (B (z_z_l_i_files_k.name)))) :: ((108, .pointer (some ⟨w417.heap.size, 0, none⟩))) :: ((109, .string (B (z_z_l_i_files_k.name)))) :: ((110, .int .i64 ((((z_z_l_i_files_k.name).length : Nat) : Int)))) :: ((111, .int .i64 ((min ((((z_z_l_i_files_k.name).length : Nat) : Int)) (120))))) :: ((112, .string (B ((z_z_l_i_files_k.name.take (min ((z_z_l_i_files_k.name).length) (120))))))) :: ((113, .pointer (some ⟨w417.heap.size, 1, none⟩))) :: ((114, .string (B (z_z_l_i_files_k.text)))) :: ((115, .pointer (some ⟨w417.heap.size, 1, none⟩))) :: ((116, .string (B (z_z_l_i_files_k.text)))) :: ((117, .int .i64 ((((z_z_l_i_files_k.text).length : Nat) : Int)))) :: ((118, .int .i64 ((min ((((z_z_l_i_files_k.text).length : Nat) : Int)) (120))))) :: ((119, .string (B ((z_z_l_i_files_k.text.take (min ((z_z_l_i_files_k.text).length) (120))))))) :: ((120, .agg #[.string (B ((z_z_l_i_files_k.name.take (min ((z_z_l_i_files_k.name).length) (120))))), .string (B ((z_z_l_i_files_k.text.take (min ((z_z_l_i_files_k.text).length) (120)))))])) :: ((121, .slice (some ⟨b596, 0, none⟩) 1 (1))) :: []) ⟨b0_, b1_, b2_, b3_, b4_, b5_, b6_, q0_, q1_, q2_, q3_, q4_, q5_, q6_, q7_, q8_, q9_, q10_, q11_, q12_, q13_, q14_, q15_, q16_, q17_, trivial⟩ (fun r_ => ?_)
                  refine S_append (info := Tryd.t53) (R := RFile) (xs := fl) (ys := [{ name := (z_z_l_i_files_k.name.take (min ((z_z_l_i_files_k.name).length) (120))), text := (z_z_l_i_files_k.text.take (min ((z_z_l_i_files_k.text).length) (120))) : File }]) (a := fl_a) (c := fl_c) 1 Tryd.underlying23 (by kernel_rfl) rfl rfl rfl (by decide) 32 rfl hS592 rfl hl595 hs597 rfl rfl (by (try simp only [List.length_append, List.length_cons, List.length_nil]); omega) (by (try simp only [List.length_append, List.length_cons, List.length_nil]); omega) ?_
                  intro a598 c599 w600 hS601
                  refine WL.val1 (R_fieldAddr (b := a204) (off := 0) (m := 2) rfl (fun _ => by kernel_rfl)) ?_
                  refine S_store (i := 3) (b := a204) (l := [.string (B ((z_l_i.name.take (min ((z_l_i.name).length) (120))))), .slice (sn_a) (sn).length (sn_c), .slice (fl_a) (fl).length (fl_c)]) (l' := [.string (B ((z_l_i.name.take (min ((z_l_i.name).length) (120))))), .slice (sn_a) (sn).length (sn_c), .slice (a598) ((fl ++ [{ name := (z_z_l_i_files_k.name.take (min ((z_z_l_i_files_k.name).length) (120))), text := (z_z_l_i_files_k.text.take (min ((z_z_l_i_files_k.text).length) (120))) : File }])).length (c599)]) (vs := [.slice (a598) ((fl ++ [{ name := (z_z_l_i_files_k.name.take (min ((z_z_l_i_files_k.name).length) (120))), text := (z_z_l_i_files_k.text.take (min ((z_z_l_i_files_k.text).length) (120))) : File }])).length (c599)]) (v := .slice (a598) ((fl ++ [{ name := (z_z_l_i_files_k.name.take (min ((z_z_l_i_files_k.name).length) (120))), text := (z_z_l_i_files_k.text.take (min ((z_z_l_i_files_k.text).length) (120))) : File }])).length (c599)) hS601 rfl rfl rfl Tryd.sizeOf23 rfl rfl rfl (Nat.le_of_ble_eq_true rfl) rfl rfl ?_
                  intro w603 hS602
                  refine WL.nil ?_
                  refine block_normal ?_
                  refine then_normal ?_
                  refine WC.region ?_
                  refine WL.val1 (R_move (v := .int .i64 (((k : Nat) : Int))) rfl) ?_
                  refine WL.val1 (R_add_i (a := ((k : Nat) : Int)) (b := 1) rfl rfl (by omega)) ?_
                  refine WL.val1 (R_assign (v := .int .i64 ((((k : Nat) : Int) + 1))) rfl) ?_
                  refine WL.nil ?_
                  refine then_normal ?_
                  have hS604 := hS602.growMono (i := 2) rfl hl595
                  have hS605 := hS604.growMono (i := 4) rfl hl595
                  exact ⟨(k + 1, (fl ++ [{ name := (z_z_l_i_files_k.name.take (min ((z_z_l_i_files_k.name).length) (120))), text := (z_z_l_i_files_k.text.take (min ((z_z_l_i_files_k.text).length) (120))) : File }]), a598, c599), ⟨rfl, rfl, rfl, rfl, rfl, (by first | rfl | (apply congrArg (Value.int .i64); omega) | simp), trivial⟩, ⟨h594, (hl419.trans hl595), hS605.pop, (by (try dsimp only); first | assumption | omega | simp), (by (try dsimp only); rw [k2, map_take_step hz_z_l_i_files_k (by omega)]; rfl)⟩, (by first | (simp only []; omega) | (simp; omega))⟩
              · skip
                refine WC.exit ?_
                refine then_exit ?_
                refine then_exit ?_
                refine block_exit ?_
                refine then_normal ?_
                obtain ⟨h606, hl607, hs608, hS609⟩ := hS416.growCommit (i := 1) rfl (Hp.le_refl _)
                obtain ⟨h610, hl611, hs612, hS613⟩ := hS609.growCommit (i := 0) rfl hl607
                have k3_ : fl = (z_l_i.files.take 6).map cutFile := by rw [k2]; exact map_take_end (by omega)
                refine WC.region ?_
                refine WL.val1 (R_move (v := .slice (acc_a) (acc).length (acc_c)) rfl) ?_
                refine WL.val1 (R_loadA (cs := [.string (B ((z_l_i.name.take (min ((z_l_i.name).length) (120))))), .slice (sn_a) (sn).length (sn_c), .slice (fl_a) (fl).length (fl_c)]) rfl (hS613.has (i := 2) rfl) (Tryd.isAgg35 _) (Tryd.sizeOf35 _) rfl (sub_cells rfl)) ?_
                refine S_buildSliceC (R := RRec) (m := 1) (vs := [(0, .agg #[.string (B ((z_l_i.name.take (min ((z_l_i.name).length) (120))))), .slice (sn_a) (sn).length (sn_c), .slice (fl_a) (fl).length (fl_c)])]) (cells := [.string (B ((z_l_i.name.take (min ((z_l_i.name).length) (120))))), .slice (sn_a) (sn).length (sn_c), .slice (fl_a) (fl).length (fl_c)]) (xs := [{ name := (z_l_i.name.take (min ((z_l_i.name).length) (120))), seens := sn, files := fl : Rec }]) hS613 Tryd.underlying22 Tryd.sizeOf35 Tryd.zeroValue35 (by decide) (by decide) rfl (by kernel_rfl) (by exact (⟨[.string (B ((z_l_i.name.take (min ((z_l_i.name).length) (120))))), .slice (sn_a) (sn).length (sn_c), .slice (fl_a) (fl).length (fl_c)], _, rfl, ⟨sn_a, sn_c, fl_a, fl_c, rfl, (hs608.mono hl611), hs612⟩, rfl⟩ : Flat RRec _ [{ name := (z_l_i.name.take (min ((z_l_i.name).length) (120))), seens := sn, files := fl : Rec }] _)) rfl ?_
                intro h616 b618 w615 hl617 hs619 hS614
                refine S_append (info := Tryd.t35) (R := RRec) (xs := acc) (ys := [{ name := (z_l_i.name.take (min ((z_l_i.name).length) (120))), seens := sn, files := fl : Rec }]) (a := acc_a) (c := acc_c) 3 Tryd.underlying22 (by kernel_rfl) rfl rfl rfl (by decide) 64 rfl hS614 rfl ((hl607.trans hl611).trans hl617) hs619 rfl rfl (by (try simp only [List.length_append, List.length_cons, List.length_nil]); omega) (by (try simp only [List.length_append, List.length_cons, List.length_nil]); omega) ?_
                intro a620 c621 w622 hS623
                refine WL.val1 (R_assign (v := .slice (a620) ((acc ++ [{ name := (z_l_i.name.take (min ((z_l_i.name).length) (120))), seens := sn, files := fl : Rec }])).length (c621)) rfl) ?_
                refine WL.nil ?_
                refine block_normal ?_
                refine then_normal ?_
                refine WC.region ?_
                refine WL.val1 (R_move (v := .int .i64 (((i : Nat) : Int))) rfl) ?_
                refine WL.val1 (R_add_i (a := ((i : Nat) : Int)) (b := 1) rfl rfl (by omega)) ?_
                refine WL.val1 (R_assign (v := .int .i64 ((((i : Nat) : Int) + 1))) rfl) ?_
                refine WL.nil ?_
                refine then_normal ?_
                exact ⟨(i + 1, (acc ++ [{ name := (z_l_i.name.take (min ((z_l_i.name).length) (120))), seens := sn, files := fl : Rec }]), a620, c621), ⟨rfl, rfl, (by first | rfl | (apply congrArg (Value.int .i64); omega) | simp), (by first | rfl | (apply congrArg (Value.int .i64); omega) | simp), trivial⟩, ⟨h616, ((((((hl6.trans hl203).trans hl213).trans hl419).trans hl607).trans hl611).trans hl617), hS623.pop.pop.pop, (by (try dsimp only); first | assumption | omega | simp), (by (try dsimp only); rw [f2, map_take_step hz_l_i (by omega), cutRec, ← g3_, ← k3_])⟩, (by first | (simp only []; omega) | (simp; omega))⟩
    · skip
      refine WC.exit ?_
      refine then_exit ?_
      refine then_exit ?_
      refine block_exit ?_
      refine then_normal ?_
      refine WC.seq ?_
      refine WC.region ?_
      refine WL.val1 (R_move (v := .slice (acc_a) (acc).length (acc_c)) rfl) ?_
      refine WL.val1 (R_assign (v := .slice (acc_a) (acc).length (acc_c)) rfl) ?_
      refine WL.nil ?_
      refine then_normal ?_
      refine WC.ret ?_
      refine top_ret (.slice (acc_a) (acc).length (acc_c)) (gives1 rfl rfl) ?_
      obtain ⟨h624, hl625, hs626, hS627⟩ := hS3.growCommit (i := 0) rfl (Hp.le_refl _)
      have e_ : cutS l n = acc := by rw [cutS, f2]; exact (map_take_end (by omega)).symm
      exact ⟨h624, (hl6.trans hl625), ⟨acc_a, acc_c, (by rw [e_]), (by first | exact hs626 | (rw [e_]; exact hs626))⟩, hS627.pop⟩
end Go.Stet
