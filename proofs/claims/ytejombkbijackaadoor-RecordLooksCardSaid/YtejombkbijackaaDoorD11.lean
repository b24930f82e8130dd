/- A part of the proof engine: rules for steps of the machine over frames and memory. Each under the conditions that its own statement names. -/
import Derived.Test.YtejombkbijackaaDoorSeatD2
import Derived.Test.YtejombkbijackaaDoorBldD
import Derived.Test.YtejombkbijackaaDoorEng15
import Derived.Test.YtejombkbijackaaDoorSpec12
import Derived.Test.YtejombkbijackaaDoorD10
set_option linter.all false
set_option linter.unusedSimpArgs false
set_option linter.unusedVariables false
namespace Go.Stet
open Go Go.Eng Go.Proofs
set_option maxHeartbeats 400000 in
theorem law_Seens (l : List Seen) (l_a : Option Addr) (l_c : Nat) (hl : l.length ≤ 1000000) : FnC GG Tryd.prog 7 (fun h => Sl RSeen h l l_a l_c) [.slice (l_a) (l).length (l_c)] (fun h v => ∃ (a : Option Addr) (c : Nat), v = .slice (a) (l).length (c) ∧ (Sl RSeen2 h l a c)) := by
  intro Γ h L w hpre hS
  have sl_l := hpre
  refine Ret.body Tryd.func7 rfl Tryd.ntmps7 (Nat.le_of_ble_eq_true rfl) ?_
  refine WC.seq ?_
  refine WC.region ?_
  refine WL.val1 (R_assign (v := .slice none 0 0) rfl) ?_
  refine WL.nil ?_
  refine then_normal ?_
  refine WC.seq ?_
  refine WC.region ?_
  refine S_buildSlice0 (R := RSeen2) (e := 57) hS Tryd.underlying28 (Tryd.sizeOf57) ?_
  intro w2 hS1
  refine WL.val1 (R_assign (v := .slice (some ⟨w.heap.size, 0, none⟩) 0 (0)) rfl) ?_
  refine WL.nil ?_
  refine then_normal ?_
  refine WC.seq ?_
  refine WC.seq ?_
  refine WC.region ?_
  refine WL.val1 (R_assign (v := .int .i64 (0)) rfl) ?_
  refine WL.nil ?_
  refine then_normal ?_
  refine WC.block ?_
  refine WC.loopL (σ := Nat × (List Seen) × (Option Addr) × Nat)
    (fun (q_ : Nat × (List Seen) × (Option Addr) × Nat) => (fun (i : Nat) (acc : List Seen) (acc_a : Option Addr) (acc_c : Nat) => [(0, .slice (l_a) (l).length (l_c)), (3, .slice (acc_a) (acc).length (acc_c)), (4, .int .i64 (((i : Nat) : Int)))]) (q_.1) (q_.2.1) (q_.2.2.1) (q_.2.2.2))
    (fun (q_ : Nat × (List Seen) × (Option Addr) × Nat) (w_ : World) => (fun (i : Nat) (acc : List Seen) (acc_a : Option Addr) (acc_c : Nat) => ∃ h5 : Hp, h.le h5 ∧ St Γ h5 (grow 57 RSeen2 h5 (acc) (acc_a) (acc_c) :: L) w_ ∧ (i ≤ l.length) ∧ (acc = l.take i)) (q_.1) (q_.2.1) (q_.2.2.1) (q_.2.2.2))
    (fun (q_ : Nat × (List Seen) × (Option Addr) × Nat) => (fun (i : Nat) (acc : List Seen) (acc_a : Option Addr) (acc_c : Nat) => l.length - i) (q_.1) (q_.2.1) (q_.2.2.1) (q_.2.2.2)) (0, ([] : List Seen), some ⟨w.heap.size, 0, none⟩, 0) ?_ ?_ ?_
  · exact ⟨rfl, (by first | rfl | (apply congrArg (Value.int .i64); omega) | simp), (by first | rfl | (apply congrArg (Value.int .i64); omega) | simp), trivial⟩
  · exact ⟨h, Hp.le_refl _, hS1, (by first | assumption | omega | simp), (by rfl)⟩
  · rintro ⟨i, acc, acc_a, acc_c⟩ r7 w4 ⟨h5, hl6, hS3, f1, f2⟩
    try dsimp only at f1 f2
    have f3 : acc.length = i := by rw [f2, List.length_take]; omega
    refine WC.seq ?_
    refine WC.seq ?_
    refine WC.region ?_
    refine WL.val1 (R_move (v := .int .i64 (((i : Nat) : Int))) rfl) ?_
    refine WL.val1 (R_move (v := .slice (l_a) (l).length (l_c)) rfl) ?_
    refine WL.val1 (R_len_slice (n := (l).length) rfl Tryd.underlying30) ?_
    refine WL.val1 (R_lss (a := ((i : Nat) : Int)) (b := (((l).length : Nat) : Int)) rfl rfl) ?_
    refine WL.nil ?_
    refine then_normal ?_
    refine WC.condP (((i : Nat) : Int) < (((l).length : Nat) : Int)) rfl (fun c0 => ?_) (fun c0 => ?_)
    · skip
      refine WC.skip ?_
      refine then_normal ?_
      refine WC.seq ?_
      refine WC.block ?_
      obtain ⟨z_l_i, hz_l_i⟩ : ∃ z, (l)[i]? = some z := ⟨_, List.getElem?_eq_getElem (by omega)⟩
      obtain ⟨b24, o25, cs29, ha26, hr27, hat28⟩ := (sl_l.mono hl6).2 i z_l_i hz_l_i
      subst hr27
      refine WC.draw 18 [(0, .slice (l_a) (l).length (l_c)), (3, .slice (acc_a) (acc).length (acc_c)), (4, .int .i64 (((i : Nat) : Int)))] [fun _ v => v = .slice (acc_a) (acc).length (acc_c), fun _ v => v = .slice (l_a) (l).length (l_c), fun _ v => v = .int .i64 (((i : Nat) : Int)), fun _ v => v = .pointer (some ⟨b24, (o25 + i * RSeen.n), none⟩), fun _ v => v = .pointer (some ⟨b24, (o25 + i * RSeen.n), none⟩), fun _ v => v = .string (B (z_l_i.name)), fun _ v => v = .slice (l_a) (l).length (l_c), fun _ v => v = .int .i64 (((i : Nat) : Int)), fun _ v => v = .pointer (some ⟨b24, (o25 + i * RSeen.n), none⟩), fun _ v => v = .pointer (some ⟨b24, (o25 + i * RSeen.n) + 1, none⟩), fun _ v => v = .bool (z_l_i.there), fun _ v => v = .slice (l_a) (l).length (l_c), fun _ v => v = .int .i64 (((i : Nat) : Int)), fun _ v => v = .pointer (some ⟨b24, (o25 + i * RSeen.n), none⟩), fun _ v => v = .pointer (some ⟨b24, (o25 + i * RSeen.n) + 2, none⟩), fun _ v => v = .string (B (z_l_i.text)), fun _ v => v = .agg #[.string (B (z_l_i.name)), .bool (z_l_i.there), .string (B (z_l_i.text))], fun h v => ∃ (b0_ : Nat), v = .slice (some ⟨b0_, 0, none⟩) 1 (1) ∧ Sl RSeen2 h ([{ name := z_l_i.name, there := z_l_i.there, text := z_l_i.text : Seen }]) (some ⟨b0_, 0, none⟩) (1)] hS3 (by kernel_rfl) (by kernel_rfl) (MonoFs.pure (MonoFs.pure (MonoFs.pure (MonoFs.pure (MonoFs.pure (MonoFs.pure (MonoFs.pure (MonoFs.pure (MonoFs.pure (MonoFs.pure (MonoFs.pure (MonoFs.pure (MonoFs.pure (MonoFs.pure (MonoFs.pure (MonoFs.pure (MonoFs.pure (MonoFs.cons (fun _ _ _ hl ⟨x0, e, y0⟩ => ⟨x0, e, y0.mono hl⟩) MonoFs.nil)))))))))))))))))) ⟨rfl, rfl, rfl, trivial⟩ ⟨?_, ?_, ?_, ?_, ?_, ?_, ?_, ?_, ?_, ?_, ?_, ?_, ?_, ?_, ?_, ?_, ?_, ?_, trivial⟩ ?_
      · intro r_ w96 h97 hl98 hS95 hb_ hp_
        obtain ⟨b0_, b1_, b2_, _⟩ := hb_
        refine WL.val1 (R_move (v := .slice (acc_a) (acc).length (acc_c)) b1_) ?_
        refine WL.nil ?_
        exact ⟨rfl, _, _, rfl, (Hp.le_refl _), rfl, hS95⟩
      · intro r_ w100 h101 hl102 hS99 hb_ hp_
        obtain ⟨b0_, b1_, b2_, _⟩ := hb_
        refine WL.val1 (R_move (v := .slice (l_a) (l).length (l_c)) b0_) ?_
        refine WL.nil ?_
        exact ⟨rfl, _, _, rfl, (Hp.le_refl _), rfl, hS99⟩
      · intro r_ w104 h105 hl106 hS103 hb_ hp_
        obtain ⟨b0_, b1_, b2_, _⟩ := hb_
        refine WL.val1 (R_move (v := .int .i64 (((i : Nat) : Int))) b2_) ?_
        refine WL.nil ?_
        exact ⟨rfl, _, _, rfl, (Hp.le_refl _), rfl, hS103⟩
      · intro r_ w108 h109 hl110 hS107 hb_ hp_
        obtain ⟨b0_, b1_, b2_, _⟩ := hb_
        obtain ⟨p0_, p1_, _⟩ := hp_
        have p0_ : r_ 13 = .slice (l_a) (l).length (l_c) := p0_
        have p1_ : r_ 14 = .int .i64 (((i : Nat) : Int)) := p1_
        refine WL.val1 (R_indexAddrE (i := ((i : Nat) : Int)) (m := i) ha26 p0_ p1_ Tryd.underlying30 (Tryd.sizeOf51 _) (by first | rfl | (omega)) (by omega)) ?_
        refine WL.nil ?_
        exact ⟨rfl, _, _, rfl, (Hp.le_refl _), rfl, hS107⟩
      · intro r_ w112 h113 hl114 hS111 hb_ hp_
        obtain ⟨b0_, b1_, b2_, _⟩ := hb_
        obtain ⟨p0_, _⟩ := hp_
        have p0_ : r_ 15 = .pointer (some ⟨b24, (o25 + i * RSeen.n), none⟩) := p0_
        refine WL.val1 (R_fieldAddr (b := b24) (off := (o25 + i * RSeen.n)) (m := 0) p0_ (fun _ => by kernel_rfl)) ?_
        refine WL.nil ?_
        exact ⟨rfl, _, _, rfl, (Hp.le_refl _), rfl, hS111⟩
      · intro r_ w116 h117 hl118 hS115 hb_ hp_
        obtain ⟨b0_, b1_, b2_, _⟩ := hb_
        obtain ⟨p0_, _⟩ := hp_
        have p0_ : r_ 16 = .pointer (some ⟨b24, (o25 + i * RSeen.n), none⟩) := p0_
        refine WL.val1 (R_loadC (v := .string (B (z_l_i.name))) hS115 p0_ ((hat28.mono hl118).sub 0 1 (cs' := [.string (B (z_l_i.name))]) rfl) Tryd.isAgg9 rfl) ?_
        refine WL.nil ?_
        exact ⟨rfl, _, _, rfl, (Hp.le_refl _), rfl, hS115⟩
      · intro r_ w120 h121 hl122 hS119 hb_ hp_
        obtain ⟨b0_, b1_, b2_, _⟩ := hb_
        refine WL.val1 (R_move (v := .slice (l_a) (l).length (l_c)) b0_) ?_
        refine WL.nil ?_
        exact ⟨rfl, _, _, rfl, (Hp.le_refl _), rfl, hS119⟩
      · intro r_ w124 h125 hl126 hS123 hb_ hp_
        obtain ⟨b0_, b1_, b2_, _⟩ := hb_
        refine WL.val1 (R_move (v := .int .i64 (((i : Nat) : Int))) b2_) ?_
        refine WL.nil ?_
        exact ⟨rfl, _, _, rfl, (Hp.le_refl _), rfl, hS123⟩
      · intro r_ w128 h129 hl130 hS127 hb_ hp_
        obtain ⟨b0_, b1_, b2_, _⟩ := hb_
        obtain ⟨p0_, p1_, _⟩ := hp_
        have p0_ : r_ 18 = .slice (l_a) (l).length (l_c) := p0_
        have p1_ : r_ 19 = .int .i64 (((i : Nat) : Int)) := p1_
        refine WL.val1 (R_indexAddrE (i := ((i : Nat) : Int)) (m := i) ha26 p0_ p1_ Tryd.underlying30 (Tryd.sizeOf51 _) (by first | rfl | (omega)) (by omega)) ?_
        refine WL.nil ?_
        exact ⟨rfl, _, _, rfl, (Hp.le_refl _), rfl, hS127⟩
      · intro r_ w132 h133 hl134 hS131 hb_ hp_
        obtain ⟨b0_, b1_, b2_, _⟩ := hb_
        obtain ⟨p0_, _⟩ := hp_
        have p0_ : r_ 20 = .pointer (some ⟨b24, (o25 + i * RSeen.n), none⟩) := p0_
        refine WL.val1 (R_fieldAddr (b := b24) (off := (o25 + i * RSeen.n)) (m := 1) p0_ (fun _ => by kernel_rfl)) ?_
        refine WL.nil ?_
        exact ⟨rfl, _, _, rfl, (Hp.le_refl _), rfl, hS131⟩
      · intro r_ w136 h137 hl138 hS135 hb_ hp_
        obtain ⟨b0_, b1_, b2_, _⟩ := hb_
        obtain ⟨p0_, _⟩ := hp_
        have p0_ : r_ 21 = .pointer (some ⟨b24, (o25 + i * RSeen.n) + 1, none⟩) := p0_
        refine WL.val1 (R_loadC (v := .bool (z_l_i.there)) hS135 p0_ ((hat28.mono hl138).sub 1 1 (cs' := [.bool (z_l_i.there)]) rfl) Tryd.isAgg4 rfl) ?_
        refine WL.nil ?_
        exact ⟨rfl, _, _, rfl, (Hp.le_refl _), rfl, hS135⟩
      · intro r_ w140 h141 hl142 hS139 hb_ hp_
        obtain ⟨b0_, b1_, b2_, _⟩ := hb_
        refine WL.val1 (R_move (v := .slice (l_a) (l).length (l_c)) b0_) ?_
        refine WL.nil ?_
        exact ⟨rfl, _, _, rfl, (Hp.le_refl _), rfl, hS139⟩
      · intro r_ w144 h145 hl146 hS143 hb_ hp_
        obtain ⟨b0_, b1_, b2_, _⟩ := hb_
        refine WL.val1 (R_move (v := .int .i64 (((i : Nat) : Int))) b2_) ?_
        refine WL.nil ?_
        exact ⟨rfl, _, _, rfl, (Hp.le_refl _), rfl, hS143⟩
      · intro r_ w148 h149 hl150 hS147 hb_ hp_
        obtain ⟨b0_, b1_, b2_, _⟩ := hb_
        obtain ⟨p0_, p1_, _⟩ := hp_
        have p0_ : r_ 23 = .slice (l_a) (l).length (l_c) := p0_
        have p1_ : r_ 24 = .int .i64 (((i : Nat) : Int)) := p1_
        refine WL.val1 (R_indexAddrE (i := ((i : Nat) : Int)) (m := i) ha26 p0_ p1_ Tryd.underlying30 (Tryd.sizeOf51 _) (by first | rfl | (omega)) (by omega)) ?_
        refine WL.nil ?_
        exact ⟨rfl, _, _, rfl, (Hp.le_refl _), rfl, hS147⟩
      · intro r_ w152 h153 hl154 hS151 hb_ hp_
        obtain ⟨b0_, b1_, b2_, _⟩ := hb_
        obtain ⟨p0_, _⟩ := hp_
        have p0_ : r_ 25 = .pointer (some ⟨b24, (o25 + i * RSeen.n), none⟩) := p0_
        refine WL.val1 (R_fieldAddr (b := b24) (off := (o25 + i * RSeen.n)) (m := 2) p0_ (fun _ => by kernel_rfl)) ?_
        refine WL.nil ?_
        exact ⟨rfl, _, _, rfl, (Hp.le_refl _), rfl, hS151⟩
      · intro r_ w156 h157 hl158 hS155 hb_ hp_
        obtain ⟨b0_, b1_, b2_, _⟩ := hb_
        obtain ⟨p0_, _⟩ := hp_
        have p0_ : r_ 26 = .pointer (some ⟨b24, (o25 + i * RSeen.n) + 2, none⟩) := p0_
        refine WL.val1 (R_loadC (v := .string (B (z_l_i.text))) hS155 p0_ ((hat28.mono hl158).sub 2 1 (cs' := [.string (B (z_l_i.text))]) rfl) Tryd.isAgg9 rfl) ?_
        refine WL.nil ?_
        exact ⟨rfl, _, _, rfl, (Hp.le_refl _), rfl, hS155⟩
      · intro r_ w160 h161 hl162 hS159 hb_ hp_
        obtain ⟨b0_, b1_, b2_, _⟩ := hb_
        obtain ⟨p0_, p1_, p2_, _⟩ := hp_
        have p0_ : r_ 17 = .string (B (z_l_i.name)) := p0_
        have p1_ : r_ 22 = .bool (z_l_i.there) := p1_
        have p2_ : r_ 27 = .string (B (z_l_i.text)) := p2_
        refine WL.val1 (R_build (vs := [(0, .string (B (z_l_i.name))), (1, .bool (z_l_i.there)), (2, .string (B (z_l_i.text)))]) (v := .agg #[.string (B (z_l_i.name)), .bool (z_l_i.there), .string (B (z_l_i.text))]) (pmap3 p0_ p1_ p2_) (fun _ => by kernel_rfl)) ?_
        refine WL.nil ?_
        exact ⟨rfl, _, _, rfl, (Hp.le_refl _), rfl, hS159⟩
      · intro r_ w164 h165 hl166 hS163 hb_ hp_
        obtain ⟨b0_, b1_, b2_, _⟩ := hb_
        obtain ⟨p0_, _⟩ := hp_
        have p0_ : r_ 28 = .agg #[.string (B (z_l_i.name)), .bool (z_l_i.there), .string (B (z_l_i.text))] := p0_
        refine S_buildSliceC (R := RSeen2) (m := 1) (vs := [(0, .agg #[.string (B (z_l_i.name)), .bool (z_l_i.there), .string (B (z_l_i.text))])]) (cells := [.string (B (z_l_i.name)), .bool (z_l_i.there), .string (B (z_l_i.text))]) (xs := [{ name := z_l_i.name, there := z_l_i.there, text := z_l_i.text : Seen }]) hS163 Tryd.underlying28 Tryd.sizeOf57 Tryd.zeroValue57 (by decide) (by decide) (pmap1 (v := .agg #[.string (B (z_l_i.name)), .bool (z_l_i.there), .string (B (z_l_i.text))]) p0_) (by kernel_rfl) (by exact (⟨[.string (B (z_l_i.name)), .bool (z_l_i.there), .string (B (z_l_i.text))], _, rfl, rfl, rfl⟩ : Flat RSeen2 _ [{ name := z_l_i.name, there := z_l_i.there, text := z_l_i.text : Seen }] _)) rfl ?_
        intro h169 b171 w168 hl170 hs172 hS167
        refine WL.nil ?_
        exact ⟨rfl, _, _, rfl, hl170, ⟨b171, rfl, hs172⟩, hS167⟩
      · intro r_ w176 h177 hl178 hS175 hb_ hf_
        obtain ⟨b0_, b1_, b2_, _⟩ := hb_
        obtain ⟨q0_, q1_, q2_, q3_, q4_, q5_, q6_, q7_, q8_, q9_, q10_, q11_, q12_, q13_, q14_, q15_, q16_, q17_, _⟩ := hf_
        obtain ⟨b179, q17_, hs180⟩ := q17_
        refine WL.frame (((0, .slice (l_a) (l).length (l_c))) :: ((3, .slice (acc_a) (acc).length (acc_c))) :: ((4, .int .i64 (((i : Nat) : Int)))) :: ((12, .slice (acc_a) (acc).length (acc_c))) :: ((13, .slice (l_a) (l).length (l_c))) :: ((14, .int .i64 (((i : Nat) : Int)))) :: ((15, .pointer (some ⟨b24, (o25 + i * RSeen.n), none⟩))) :: ((16, .pointer (some ⟨b24, (o25 + i * RSeen.n), none⟩))) :: ((17, .string (B (z_l_i.name)))) :: ((18, .slice (l_a) (l).length (l_c))) :: ((19, .int .i64 (((i : Nat) : Int)))) :: ((20, .pointer (some ⟨b24, (o25 + i * RSeen.n), none⟩))) :: ((21, .pointer (some ⟨b24, (o25 + i * RSeen.n) + 1, none⟩))) :: ((22, .bool (z_l_i.there))) :: ((23, .slice (l_a) (l).length (l_c))) :: ((24, .int .i64 (((i : Nat) : Int)))) :: ((25, .pointer (some ⟨b24, (o25 + i * RSeen.n), none⟩))) :: ((26, .pointer (some ⟨b24, (o25 + i * RSeen.n) + 2, none⟩))) :: ((27, .string (B (z_l_i.text)))) :: ((28, .agg #[.string (B (z_l_i.name)), .bool (z_l_i.there), .string (B (z_l_i.text))])) :: ((29, .slice (some ⟨b179, 0, none⟩) 1 (1))) :: []) ⟨b0_, b1_, b2_, q0_, q1_, q2_, q3_, q4_, q5_, q6_, q7_, q8_, q9_, q10_, q11_, q12_, q13_, q14_, q15_, q16_, q17_, trivial⟩ (fun r_ => ?_)
        refine S_append (info := Tryd.t57) (R := RSeen2) (xs := acc) (ys := [{ name := z_l_i.name, there := z_l_i.there, text := z_l_i.text : Seen }]) (a := acc_a) (c := acc_c) 0 Tryd.underlying28 (by kernel_rfl) rfl rfl rfl (by decide) 40 rfl hS175 rfl hl178 hs180 rfl rfl (by (try simp only [List.length_append, List.length_cons, List.length_nil]); omega) (by (try simp only [List.length_append, List.length_cons, List.length_nil]); omega) ?_
        intro a181 c182 w183 hS184
        refine WL.val1 (R_assign (v := .slice (a181) ((acc ++ [{ name := z_l_i.name, there := z_l_i.there, text := z_l_i.text : Seen }])).length (c182)) rfl) ?_
        refine WL.nil ?_
        refine block_normal ?_
        refine then_normal ?_
        refine WC.region ?_
        refine WL.val1 (R_move (v := .int .i64 (((i : Nat) : Int))) rfl) ?_
        refine WL.val1 (R_add_i (a := ((i : Nat) : Int)) (b := 1) rfl rfl (by omega)) ?_
        refine WL.val1 (R_assign (v := .int .i64 ((((i : Nat) : Int) + 1))) rfl) ?_
        refine WL.nil ?_
        refine then_normal ?_
        exact ⟨(i + 1, (acc ++ [{ name := z_l_i.name, there := z_l_i.there, text := z_l_i.text : Seen }]), a181, c182), ⟨rfl, (by first | rfl | (apply congrArg (Value.int .i64); omega) | simp), (by first | rfl | (apply congrArg (Value.int .i64); omega) | simp), trivial⟩, ⟨h177, (hl6.trans hl178), hS184, (by (try dsimp only); first | assumption | omega | simp), (by (try dsimp only); rw [f2, take_succ' hz_l_i])⟩, (by first | (simp only []; omega) | (simp; omega))⟩
    · skip
      refine WC.exit ?_
      refine then_exit ?_
      refine then_exit ?_
      refine block_exit ?_
      refine then_normal ?_
      refine WC.seq ?_
      refine WC.region ?_
      refine WL.val1 (R_move (v := .slice (acc_a) (acc).length (acc_c)) rfl) ?_
      refine WL.val1 (R_assign (v := .slice (acc_a) (acc).length (acc_c)) rfl) ?_
      refine WL.nil ?_
      refine then_normal ?_
      refine WC.ret ?_
      refine top_ret (.slice (acc_a) (acc).length (acc_c)) (gives1 rfl rfl) ?_
      obtain ⟨h185, hl186, hs187, hS188⟩ := hS3.growCommit (i := 0) rfl (Hp.le_refl _)
      have e_ : l = acc := by rw [f2, List.take_of_length_le (by omega)]
      exact ⟨h185, (hl6.trans hl186), ⟨acc_a, acc_c, (by rw [e_]), (by first | exact hs187 | (rw [e_]; exact hs187))⟩, hS188.pop⟩
set_option maxHeartbeats 400000 in
theorem law_Refs (l : List Rec) (l_a : Option Addr) (l_c : Nat) (hl : l.length ≤ 1000000) (hz : ∀ x ∈ l, x.seens.length ≤ 1000000) : FnC GG Tryd.prog 12 (fun h => Sl RRec h l l_a l_c) [.slice (l_a) (l).length (l_c)] (fun h v => ∃ (a : Option Addr) (c : Nat), v = .slice (a) (l).length (c) ∧ (Sl RRec2 h l a c)) := by
  intro Γ h L w hpre hS
  have sl_l := hpre
  refine Ret.body Tryd.func12 rfl Tryd.ntmps12 (Nat.le_of_ble_eq_true rfl) ?_
  refine WC.seq ?_
  refine WC.region ?_
  refine WL.val1 (R_assign (v := .slice none 0 0) rfl) ?_
  refine WL.nil ?_
  refine then_normal ?_
  refine WC.seq ?_
  refine WC.region ?_
  refine S_buildSlice0 (R := RRec2) (e := 38) hS Tryd.underlying39 (Tryd.sizeOf38) ?_
  intro w2 hS1
  refine WL.val1 (R_assign (v := .slice (some ⟨w.heap.size, 0, none⟩) 0 (0)) rfl) ?_
  refine WL.nil ?_
  refine then_normal ?_
  refine WC.seq ?_
  refine WC.seq ?_
  refine WC.region ?_
  refine WL.val1 (R_assign (v := .int .i64 (0)) rfl) ?_
  refine WL.nil ?_
  refine then_normal ?_
  refine WC.block ?_
  refine WC.loopL (σ := Nat × (List Rec) × (Option Addr) × Nat)
    (fun (q_ : Nat × (List Rec) × (Option Addr) × Nat) => (fun (i : Nat) (acc : List Rec) (acc_a : Option Addr) (acc_c : Nat) => [(0, .slice (l_a) (l).length (l_c)), (3, .slice (acc_a) (acc).length (acc_c)), (4, .int .i64 (((i : Nat) : Int)))]) (q_.1) (q_.2.1) (q_.2.2.1) (q_.2.2.2))
    (fun (q_ : Nat × (List Rec) × (Option Addr) × Nat) (w_ : World) => (fun (i : Nat) (acc : List Rec) (acc_a : Option Addr) (acc_c : Nat) => ∃ h5 : Hp, h.le h5 ∧ St Γ h5 (grow 38 RRec2 h5 (acc) (acc_a) (acc_c) :: L) w_ ∧ (i ≤ l.length) ∧ (acc = l.take i)) (q_.1) (q_.2.1) (q_.2.2.1) (q_.2.2.2))
    (fun (q_ : Nat × (List Rec) × (Option Addr) × Nat) => (fun (i : Nat) (acc : List Rec) (acc_a : Option Addr) (acc_c : Nat) => l.length - i) (q_.1) (q_.2.1) (q_.2.2.1) (q_.2.2.2)) (0, ([] : List Rec), some ⟨w.heap.size, 0, none⟩, 0) ?_ ?_ ?_
  · exact ⟨rfl, (by first | rfl | (apply congrArg (Value.int .i64); omega) | simp), (by first | rfl | (apply congrArg (Value.int .i64); omega) | simp), trivial⟩
  · exact ⟨h, Hp.le_refl _, hS1, (by first | assumption | omega | simp), (by rfl)⟩
  · rintro ⟨i, acc, acc_a, acc_c⟩ r7 w4 ⟨h5, hl6, hS3, f1, f2⟩
    try dsimp only at f1 f2
    have f3 : acc.length = i := by rw [f2, List.length_take]; omega
    refine WC.seq ?_
    refine WC.seq ?_
    refine WC.region ?_
    refine WL.val1 (R_move (v := .int .i64 (((i : Nat) : Int))) rfl) ?_
    refine WL.val1 (R_move (v := .slice (l_a) (l).length (l_c)) rfl) ?_
    refine WL.val1 (R_len_slice (n := (l).length) rfl Tryd.underlying22) ?_
    refine WL.val1 (R_lss (a := ((i : Nat) : Int)) (b := (((l).length : Nat) : Int)) rfl rfl) ?_
    refine WL.nil ?_
    refine then_normal ?_
    refine WC.condP (((i : Nat) : Int) < (((l).length : Nat) : Int)) rfl (fun c0 => ?_) (fun c0 => ?_)
    · skip
      refine WC.skip ?_
      refine then_normal ?_
      refine WC.seq ?_
      refine WC.block ?_
      obtain ⟨z_l_i, hz_l_i⟩ : ∃ z, (l)[i]? = some z := ⟨_, List.getElem?_eq_getElem (by omega)⟩
      obtain ⟨b24, o25, cs29, ha26, hr27, hat28⟩ := (sl_l.mono hl6).2 i z_l_i hz_l_i
      obtain ⟨a30, c31, a32, c33, rfl, hs34, hs35⟩ := hr27
      have hb_l_i := hz z_l_i (List.mem_of_getElem? hz_l_i)
      refine WC.draw 19 [(0, .slice (l_a) (l).length (l_c)), (3, .slice (acc_a) (acc).length (acc_c)), (4, .int .i64 (((i : Nat) : Int)))] [fun _ v => v = .slice (acc_a) (acc).length (acc_c), fun _ v => v = .slice (l_a) (l).length (l_c), fun _ v => v = .int .i64 (((i : Nat) : Int)), fun _ v => v = .pointer (some ⟨b24, (o25 + i * RRec.n), none⟩), fun _ v => v = .pointer (some ⟨b24, (o25 + i * RRec.n), none⟩), fun _ v => v = .string (B (z_l_i.name)), fun _ v => v = .slice (l_a) (l).length (l_c), fun _ v => v = .int .i64 (((i : Nat) : Int)), fun _ v => v = .pointer (some ⟨b24, (o25 + i * RRec.n), none⟩), fun _ v => v = .pointer (some ⟨b24, (o25 + i * RRec.n) + 1, none⟩), fun _ v => v = .slice (a30) (z_l_i.seens).length (c31), fun h v => ∃ (a0_ : Option Addr) (c0_ : Nat), v = .slice (a0_) (z_l_i.seens).length (c0_) ∧ Sl RSeen2 h (z_l_i.seens) (a0_) (c0_), fun _ v => v = .slice (l_a) (l).length (l_c), fun _ v => v = .int .i64 (((i : Nat) : Int)), fun _ v => v = .pointer (some ⟨b24, (o25 + i * RRec.n), none⟩), fun _ v => v = .pointer (some ⟨b24, (o25 + i * RRec.n) + 2, none⟩), fun _ v => v = .slice (a32) (z_l_i.files).length (c33), fun h v => ∃ (a0_ : Option Addr) (c0_ : Nat), v = .agg #[.string (B (z_l_i.name)), .slice (a0_) (z_l_i.seens).length (c0_), .slice (a32) (z_l_i.files).length (c33)] ∧ Sl RSeen2 h (z_l_i.seens) (a0_) (c0_), fun h v => ∃ (b0_ : Nat), v = .slice (some ⟨b0_, 0, none⟩) 1 (1) ∧ Sl RRec2 h ([{ name := z_l_i.name, seens := z_l_i.seens, files := z_l_i.files : Rec }]) (some ⟨b0_, 0, none⟩) (1)] hS3 (by kernel_rfl) (by kernel_rfl) (MonoFs.pure (MonoFs.pure (MonoFs.pure (MonoFs.pure (MonoFs.pure (MonoFs.pure (MonoFs.pure (MonoFs.pure (MonoFs.pure (MonoFs.pure (MonoFs.pure (MonoFs.cons (fun _ _ _ hl ⟨x0, x1, e, y0⟩ => ⟨x0, x1, e, y0.mono hl⟩) (MonoFs.pure (MonoFs.pure (MonoFs.pure (MonoFs.pure (MonoFs.pure (MonoFs.cons (fun _ _ _ hl ⟨x0, x1, e, y0⟩ => ⟨x0, x1, e, y0.mono hl⟩) (MonoFs.cons (fun _ _ _ hl ⟨x0, e, y0⟩ => ⟨x0, e, y0.mono hl⟩) MonoFs.nil))))))))))))))))))) ⟨rfl, rfl, rfl, trivial⟩ ⟨?_, ?_, ?_, ?_, ?_, ?_, ?_, ?_, ?_, ?_, ?_, ?_, ?_, ?_, ?_, ?_, ?_, ?_, ?_, trivial⟩ ?_
      · intro r_ w129 h130 hl131 hS128 hb_ hp_
        obtain ⟨b0_, b1_, b2_, _⟩ := hb_
        refine WL.val1 (R_move (v := .slice (acc_a) (acc).length (acc_c)) b1_) ?_
        refine WL.nil ?_
        exact ⟨rfl, _, _, rfl, (Hp.le_refl _), rfl, hS128⟩
      · intro r_ w133 h134 hl135 hS132 hb_ hp_
        obtain ⟨b0_, b1_, b2_, _⟩ := hb_
        refine WL.val1 (R_move (v := .slice (l_a) (l).length (l_c)) b0_) ?_
        refine WL.nil ?_
        exact ⟨rfl, _, _, rfl, (Hp.le_refl _), rfl, hS132⟩
      · intro r_ w137 h138 hl139 hS136 hb_ hp_
        obtain ⟨b0_, b1_, b2_, _⟩ := hb_
        refine WL.val1 (R_move (v := .int .i64 (((i : Nat) : Int))) b2_) ?_
        refine WL.nil ?_
        exact ⟨rfl, _, _, rfl, (Hp.le_refl _), rfl, hS136⟩
      · intro r_ w141 h142 hl143 hS140 hb_ hp_
        obtain ⟨b0_, b1_, b2_, _⟩ := hb_
        obtain ⟨p0_, p1_, _⟩ := hp_
        have p0_ : r_ 13 = .slice (l_a) (l).length (l_c) := p0_
        have p1_ : r_ 14 = .int .i64 (((i : Nat) : Int)) := p1_
        refine WL.val1 (R_indexAddrE (i := ((i : Nat) : Int)) (m := i) ha26 p0_ p1_ Tryd.underlying22 (Tryd.sizeOf35 _) (by first | rfl | (omega)) (by omega)) ?_
        refine WL.nil ?_
        exact ⟨rfl, _, _, rfl, (Hp.le_refl _), rfl, hS140⟩
      · intro r_ w145 h146 hl147 hS144 hb_ hp_
        obtain ⟨b0_, b1_, b2_, _⟩ := hb_
        obtain ⟨p0_, _⟩ := hp_
        have p0_ : r_ 15 = .pointer (some ⟨b24, (o25 + i * RRec.n), none⟩) := p0_
        refine WL.val1 (R_fieldAddr (b := b24) (off := (o25 + i * RRec.n)) (m := 0) p0_ (fun _ => by kernel_rfl)) ?_
        refine WL.nil ?_
        exact ⟨rfl, _, _, rfl, (Hp.le_refl _), rfl, hS144⟩
      · intro r_ w149 h150 hl151 hS148 hb_ hp_
        obtain ⟨b0_, b1_, b2_, _⟩ := hb_
        obtain ⟨p0_, _⟩ := hp_
        have p0_ : r_ 16 = .pointer (some ⟨b24, (o25 + i * RRec.n), none⟩) := p0_
        refine WL.val1 (R_loadC (v := .string (B (z_l_i.name))) hS148 p0_ ((hat28.mono hl151).sub 0 1 (cs' := [.string (B (z_l_i.name))]) rfl) Tryd.isAgg9 rfl) ?_
        refine WL.nil ?_
        exact ⟨rfl, _, _, rfl, (Hp.le_refl _), rfl, hS148⟩
      · intro r_ w153 h154 hl155 hS152 hb_ hp_
        obtain ⟨b0_, b1_, b2_, _⟩ := hb_
        refine WL.val1 (R_move (v := .slice (l_a) (l).length (l_c)) b0_) ?_
        refine WL.nil ?_
        exact ⟨rfl, _, _, rfl, (Hp.le_refl _), rfl, hS152⟩
      · intro r_ w157 h158 hl159 hS156 hb_ hp_
        obtain ⟨b0_, b1_, b2_, _⟩ := hb_
        refine WL.val1 (R_move (v := .int .i64 (((i : Nat) : Int))) b2_) ?_
        refine WL.nil ?_
        exact ⟨rfl, _, _, rfl, (Hp.le_refl _), rfl, hS156⟩
      · intro r_ w161 h162 hl163 hS160 hb_ hp_
        obtain ⟨b0_, b1_, b2_, _⟩ := hb_
        obtain ⟨p0_, p1_, _⟩ := hp_
        have p0_ : r_ 18 = .slice (l_a) (l).length (l_c) := p0_
        have p1_ : r_ 19 = .int .i64 (((i : Nat) : Int)) := p1_
        refine WL.val1 (R_indexAddrE (i := ((i : Nat) : Int)) (m := i) ha26 p0_ p1_ Tryd.underlying22 (Tryd.sizeOf35 _) (by first | rfl | (omega)) (by omega)) ?_
        refine WL.nil ?_
        exact ⟨rfl, _, _, rfl, (Hp.le_refl _), rfl, hS160⟩
      · intro r_ w165 h166 hl167 hS164 hb_ hp_
        obtain ⟨b0_, b1_, b2_, _⟩ := hb_
        obtain ⟨p0_, _⟩ := hp_
        have p0_ : r_ 20 = .pointer (some ⟨b24, (o25 + i * RRec.n), none⟩) := p0_
        refine WL.val1 (R_fieldAddr (b := b24) (off := (o25 + i * RRec.n)) (m := 1) p0_ (fun _ => by kernel_rfl)) ?_
        refine WL.nil ?_
        exact ⟨rfl, _, _, rfl, (Hp.le_refl _), rfl, hS164⟩
      · intro r_ w169 h170 hl171 hS168 hb_ hp_
        obtain ⟨b0_, b1_, b2_, _⟩ := hb_
        obtain ⟨p0_, _⟩ := hp_
        have p0_ : r_ 21 = .pointer (some ⟨b24, (o25 + i * RRec.n) + 1, none⟩) := p0_
        refine WL.val1 (R_loadC (v := .slice (a30) (z_l_i.seens).length (c31)) hS168 p0_ ((hat28.mono hl171).sub 1 1 (cs' := [.slice (a30) (z_l_i.seens).length (c31)]) rfl) Tryd.isAgg30 rfl) ?_
        refine WL.nil ?_
        exact ⟨rfl, _, _, rfl, (Hp.le_refl _), rfl, hS168⟩
      · intro r_ w173 h174 hl175 hS172 hb_ hp_
        obtain ⟨b0_, b1_, b2_, _⟩ := hb_
        obtain ⟨p0_, _⟩ := hp_
        have p0_ : r_ 22 = .slice (a30) (z_l_i.seens).length (c31) := p0_
        refine S_callF (vs := [.slice (a30) (z_l_i.seens).length (c31)]) hS172 Tryd.call7 (hmap1 p0_) (law_Seens (z_l_i.seens) (a30) (c31) (by first | assumption | omega)) (hs34.mono hl175) ?_
        intro h178 v180 w177 hl179 hp181 hS176
        obtain ⟨a182, c183, rfl, hf184⟩ := hp181
        refine WL.nil ?_
        exact ⟨rfl, _, _, rfl, hl179, ⟨a182, c183, rfl, hf184⟩, hS176⟩
      · intro r_ w189 h190 hl191 hS188 hb_ hp_
        obtain ⟨b0_, b1_, b2_, _⟩ := hb_
        refine WL.val1 (R_move (v := .slice (l_a) (l).length (l_c)) b0_) ?_
        refine WL.nil ?_
        exact ⟨rfl, _, _, rfl, (Hp.le_refl _), rfl, hS188⟩
      · intro r_ w193 h194 hl195 hS192 hb_ hp_
        obtain ⟨b0_, b1_, b2_, _⟩ := hb_
        refine WL.val1 (R_move (v := .int .i64 (((i : Nat) : Int))) b2_) ?_
        refine WL.nil ?_
        exact ⟨rfl, _, _, rfl, (Hp.le_refl _), rfl, hS192⟩
      · intro r_ w197 h198 hl199 hS196 hb_ hp_
        obtain ⟨b0_, b1_, b2_, _⟩ := hb_
        obtain ⟨p0_, p1_, _⟩ := hp_
        have p0_ : r_ 24 = .slice (l_a) (l).length (l_c) := p0_
        have p1_ : r_ 25 = .int .i64 (((i : Nat) : Int)) := p1_
        refine WL.val1 (R_indexAddrE (i := ((i : Nat) : Int)) (m := i) ha26 p0_ p1_ Tryd.underlying22 (Tryd.sizeOf35 _) (by first | rfl | (omega)) (by omega)) ?_
        refine WL.nil ?_
        exact ⟨rfl, _, _, rfl, (Hp.le_refl _), rfl, hS196⟩
      · intro r_ w201 h202 hl203 hS200 hb_ hp_
        obtain ⟨b0_, b1_, b2_, _⟩ := hb_
        obtain ⟨p0_, _⟩ := hp_
        have p0_ : r_ 26 = .pointer (some ⟨b24, (o25 + i * RRec.n), none⟩) := p0_
        refine WL.val1 (R_fieldAddr (b := b24) (off := (o25 + i * RRec.n)) (m := 2) p0_ (fun _ => by kernel_rfl)) ?_
        refine WL.nil ?_
        exact ⟨rfl, _, _, rfl, (Hp.le_refl _), rfl, hS200⟩
      · intro r_ w205 h206 hl207 hS204 hb_ hp_
        obtain ⟨b0_, b1_, b2_, _⟩ := hb_
        obtain ⟨p0_, _⟩ := hp_
        have p0_ : r_ 27 = .pointer (some ⟨b24, (o25 + i * RRec.n) + 2, none⟩) := p0_
        refine WL.val1 (R_loadC (v := .slice (a32) (z_l_i.files).length (c33)) hS204 p0_ ((hat28.mono hl207).sub 2 1 (cs' := [.slice (a32) (z_l_i.files).length (c33)]) rfl) Tryd.isAgg23 rfl) ?_
        refine WL.nil ?_
        exact ⟨rfl, _, _, rfl, (Hp.le_refl _), rfl, hS204⟩
      · intro r_ w209 h210 hl211 hS208 hb_ hp_
        obtain ⟨b0_, b1_, b2_, _⟩ := hb_
        obtain ⟨p0_, p1_, p2_, _⟩ := hp_
        have p0_ : r_ 17 = .string (B (z_l_i.name)) := p0_
        obtain ⟨a212, c213, p1_, hs214⟩ := p1_
        have p2_ : r_ 28 = .slice (a32) (z_l_i.files).length (c33) := p2_
        refine WL.val1 (R_build (vs := [(0, .string (B (z_l_i.name))), (1, .slice (a212) (z_l_i.seens).length (c213)), (2, .slice (a32) (z_l_i.files).length (c33))]) (v := .agg #[.string (B (z_l_i.name)), .slice (a212) (z_l_i.seens).length (c213), .slice (a32) (z_l_i.files).length (c33)]) (pmap3 p0_ p1_ p2_) (fun _ => by kernel_rfl)) ?_
        refine WL.nil ?_
        exact ⟨rfl, _, _, rfl, (Hp.le_refl _), ⟨a212, c213, rfl, hs214⟩, hS208⟩
      · intro r_ w219 h220 hl221 hS218 hb_ hp_
        obtain ⟨b0_, b1_, b2_, _⟩ := hb_
        obtain ⟨p0_, _⟩ := hp_
        obtain ⟨a222, c223, p0_, hs224⟩ := p0_
        refine S_buildSliceC (R := RRec2) (m := 1) (vs := [(0, .agg #[.string (B (z_l_i.name)), .slice (a222) (z_l_i.seens).length (c223), .slice (a32) (z_l_i.files).length (c33)])]) (cells := [.string (B (z_l_i.name)), .slice (a222) (z_l_i.seens).length (c223), .slice (a32) (z_l_i.files).length (c33)]) (xs := [{ name := z_l_i.name, seens := z_l_i.seens, files := z_l_i.files : Rec }]) hS218 Tryd.underlying39 Tryd.sizeOf38 Tryd.zeroValue38 (by decide) (by decide) (pmap1 (v := .agg #[.string (B (z_l_i.name)), .slice (a222) (z_l_i.seens).length (c223), .slice (a32) (z_l_i.files).length (c33)]) p0_) (by kernel_rfl) (by exact (⟨[.string (B (z_l_i.name)), .slice (a222) (z_l_i.seens).length (c223), .slice (a32) (z_l_i.files).length (c33)], _, rfl, ⟨a222, c223, a32, c33, rfl, hs224, (hs35.mono hl221)⟩, rfl⟩ : Flat RRec2 _ [{ name := z_l_i.name, seens := z_l_i.seens, files := z_l_i.files : Rec }] _)) rfl ?_
        intro h227 b229 w226 hl228 hs230 hS225
        refine WL.nil ?_
        exact ⟨rfl, _, _, rfl, hl228, ⟨b229, rfl, hs230⟩, hS225⟩
      · intro r_ w234 h235 hl236 hS233 hb_ hf_
        obtain ⟨b0_, b1_, b2_, _⟩ := hb_
        obtain ⟨q0_, q1_, q2_, q3_, q4_, q5_, q6_, q7_, q8_, q9_, q10_, q11_, q12_, q13_, q14_, q15_, q16_, q17_, q18_, _⟩ := hf_
        obtain ⟨a237, c238, q11_, hs239⟩ := q11_
        obtain ⟨a240, c241, q17_, hs242⟩ := q17_
        obtain ⟨b243, q18_, hs244⟩ := q18_
        refine WL.frame (((0, .slice (l_a) (l).length (l_c))) :: ((3, .slice (acc_a) (acc).length (acc_c))) :: ((4, .int .i64 (((i : Nat) : Int)))) :: ((12, .slice (acc_a) (acc).length (acc_c))) :: ((13, .slice (l_a) (l).length (l_c))) :: ((14, .int .i64 (((i : Nat) : Int)))) :: ((15, .pointer (some ⟨b24, (o25 + i * RRec.n), none⟩))) :: ((16, .pointer (some ⟨b24, (o25 + i * RRec.n), none⟩))) :: ((17, .string (B (z_l_i.name)))) :: ((18, .slice (l_a) (l).length (l_c))) :: ((19, .int .i64 (((i : Nat) : Int)))) :: ((20, .pointer (some ⟨b24, (o25 + i * RRec.n), none⟩))) :: ((21, .pointer (some ⟨b24, (o25 + i * RRec.n) + 1, none⟩))) :: ((22, .slice (a30) (z_l_i.seens).length (c31))) :: ((23, .slice (a237) (z_l_i.seens).length (c238))) :: ((24, .slice (l_a) (l).length (l_c))) :: ((25, .int .i64 (((i : Nat) : Int)))) :: ((26, .pointer (some ⟨b24, (o25 + i * RRec.n), none⟩))) :: ((27, .pointer (some ⟨b24, (o25 + i * RRec.n) + 2, none⟩))) :: ((28, .slice (a32) (z_l_i.files).length (c33))) :: ((29, .agg #[.string (B (z_l_i.name)), .slice (a240) (z_l_i.seens).length (c241), .slice (a32) (z_l_i.files).length (c33)])) :: ((30, .slice (some ⟨b243, 0, none⟩) 1 (1))) :: []) ⟨b0_, b1_, b2_, q0_, q1_, q2_, q3_, q4_, q5_, q6_, q7_, q8_, q9_, q10_, q11_, q12_, q13_, q14_, q15_, q16_, q17_, q18_, trivial⟩ (fun r_ => ?_)
        refine S_append (info := Tryd.t38) (R := RRec2) (xs := acc) (ys := [{ name := z_l_i.name, seens := z_l_i.seens, files := z_l_i.files : Rec }]) (a := acc_a) (c := acc_c) 0 Tryd.underlying39 (by kernel_rfl) rfl rfl rfl (by decide) 64 rfl hS233 rfl hl236 hs244 rfl rfl (by (try simp only [List.length_append, List.length_cons, List.length_nil]); omega) (by (try simp only [List.length_append, List.length_cons, List.length_nil]); omega) ?_
        intro a245 c246 w247 hS248
        refine WL.val1 (R_assign (v := .slice (a245) ((acc ++ [{ name := z_l_i.name, seens := z_l_i.seens, files := z_l_i.files : Rec }])).length (c246)) rfl) ?_
        refine WL.nil ?_
        refine block_normal ?_
        refine then_normal ?_
        refine WC.region ?_
        refine WL.val1 (R_move (v := .int .i64 (((i : Nat) : Int))) rfl) ?_
        refine WL.val1 (R_add_i (a := ((i : Nat) : Int)) (b := 1) rfl rfl (by omega)) ?_
        refine WL.val1 (R_assign (v := .int .i64 ((((i : Nat) : Int) + 1))) rfl) ?_
        refine WL.nil ?_
        refine then_normal ?_
        exact ⟨(i + 1, (acc ++ [{ name := z_l_i.name, seens := z_l_i.seens, files := z_l_i.files : Rec }]), a245, c246), ⟨rfl, (by first | rfl | (apply congrArg (Value.int .i64); omega) | simp), (by first | rfl | (apply congrArg (Value.int .i64); omega) | simp), trivial⟩, ⟨h235, (hl6.trans hl236), hS248, (by (try dsimp only); first | assumption | omega | simp), (by (try dsimp only); rw [f2, take_succ' hz_l_i])⟩, (by first | (simp only []; omega) | (simp; omega))⟩
    · skip
      refine WC.exit ?_
      refine then_exit ?_
      refine then_exit ?_
      refine block_exit ?_
      refine then_normal ?_
      refine WC.seq ?_
      refine WC.region ?_
      refine WL.val1 (R_move (v := .slice (acc_a) (acc).length (acc_c)) rfl) ?_
      refine WL.val1 (R_assign (v := .slice (acc_a) (acc).length (acc_c)) rfl) ?_
      refine WL.nil ?_
      refine then_normal ?_
      refine WC.ret ?_
      refine top_ret (.slice (acc_a) (acc).length (acc_c)) (gives1 rfl rfl) ?_
      obtain ⟨h249, hl250, hs251, hS252⟩ := hS3.growCommit (i := 0) rfl (Hp.le_refl _)
      have e_ : l = acc := by rw [f2, List.take_of_length_le (by omega)]
      exact ⟨h249, (hl6.trans hl250), ⟨acc_a, acc_c, (by rw [e_]), (by first | exact hs251 | (rw [e_]; exact hs251))⟩, hS252.pop⟩
set_option maxHeartbeats 400000 in
theorem ref20_Seens (a : List Seen) (a_a : Option Addr) (a_c : Nat) (b : List Seen) (b_a : Option Addr) (b_c : Nat) (ha : a.length ≤ 1000000) (hb : b.length ≤ 1000000) : PureC GG Tryd.prog 6 (fun h => Sl RSeen2 h a a_a a_c ∧ Sl RSeen2 h b b_a b_c) [.slice (a_a) (a).length (a_c), .slice (b_a) (b).length (b_c)] (.bool (sameSeens a b)) := by
  intro Γ h L w hpre hS
  obtain ⟨sl_a, sl_b⟩ := hpre
  refine Ret.body Tryd.func6 rfl Tryd.ntmps6 (Nat.le_of_ble_eq_true rfl) ?_
  refine WC.seq ?_
  refine WC.region ?_
  refine WL.val1 (R_assign (v := .bool (false)) rfl) ?_
  refine WL.nil ?_
  refine then_normal ?_
  refine WC.seq ?_
  refine WC.seq ?_
  refine WC.region ?_
  refine WL.val1 (R_move (v := .slice (a_a) (a).length (a_c)) rfl) ?_
  refine WL.val1 (R_len_slice (n := (a).length) rfl Tryd.underlying28) ?_
  refine WL.val1 (R_move (v := .slice (b_a) (b).length (b_c)) rfl) ?_
  refine WL.val1 (R_len_slice (n := (b).length) rfl Tryd.underlying28) ?_
  refine WL.val1 (R_neq (a := (((a).length : Nat) : Int)) (b := (((b).length : Nat) : Int)) rfl rfl) ?_
  refine WL.nil ?_
  refine then_normal ?_
  refine WC.condP ((((a).length : Nat) : Int) ≠ (((b).length : Nat) : Int)) rfl (fun c0 => ?_) (fun c0 => ?_)
  · skip
    refine WC.seq ?_
    refine WC.region ?_
    refine WL.val1 (R_assign (v := .bool (false)) rfl) ?_
    refine WL.nil ?_
    refine then_normal ?_
    refine WC.ret ?_
    refine then_ret ?_
    refine top_ret (.bool (false)) (gives1 rfl rfl) ?_
    exact ⟨(by apply congrArg Value.bool; rw [sameSeens, decide_eq_false (by omega)]; rfl), hS⟩
  · skip
    refine WC.skip ?_
    refine then_normal ?_
    refine WC.seq ?_
    refine WC.seq ?_
    refine WC.region ?_
    refine WL.val1 (R_assign (v := .int .i64 (0)) rfl) ?_
    refine WL.nil ?_
    refine then_normal ?_
    refine WC.block ?_
    refine WC.loopL (σ := Nat)
      (fun (q_ : Nat) => (fun (i : Nat) => [(0, .slice (a_a) (a).length (a_c)), (1, .slice (b_a) (b).length (b_c)), (5, .int .i64 (((i : Nat) : Int)))]) (q_))
      (fun (q_ : Nat) (w_ : World) => (fun (i : Nat) => ∃ h3 : Hp, h.le h3 ∧ St Γ h3 (L) w_ ∧ (i ≤ a.length) ∧ (((a.zip b).drop i).all (fun p => decide (p.1.name = p.2.name ∧ p.1.there = p.2.there ∧ p.1.text = p.2.text)) = sameSeens a b)) (q_))
      (fun (q_ : Nat) => (fun (i : Nat) => a.length - i) (q_)) (0) ?_ ?_ ?_
    · exact ⟨rfl, rfl, (by first | rfl | (apply congrArg (Value.int .i64); omega) | simp), trivial⟩
    · exact ⟨h, Hp.le_refl _, hS, (by first | assumption | omega | simp), (by rw [sameSeens, decide_eq_true (by omega), Bool.true_and]; rfl)⟩
    · rintro i r5 w2 ⟨h3, hl4, hS1, f1, f2⟩
      try dsimp only at f1 f2
      refine WC.seq ?_
      refine WC.seq ?_
      refine WC.region ?_
      refine WL.val1 (R_move (v := .int .i64 (((i : Nat) : Int))) rfl) ?_
      refine WL.val1 (R_move (v := .slice (a_a) (a).length (a_c)) rfl) ?_
      refine WL.val1 (R_len_slice (n := (a).length) rfl Tryd.underlying28) ?_
      refine WL.val1 (R_lss (a := ((i : Nat) : Int)) (b := (((a).length : Nat) : Int)) rfl rfl) ?_
      refine WL.nil ?_
      refine then_normal ?_
      refine WC.condP (((i : Nat) : Int) < (((a).length : Nat) : Int)) rfl (fun c1 => ?_) (fun c1 => ?_)
      · skip
        refine WC.skip ?_
        refine then_normal ?_
        refine WC.seq ?_
        refine WC.block ?_
        refine WC.seq ?_
        obtain ⟨z_a_i, hz_a_i⟩ : ∃ z, (a)[i]? = some z := ⟨_, List.getElem?_eq_getElem (by omega)⟩
        obtain ⟨b18, o19, cs23, ha20, hr21, hat22⟩ := (sl_a.mono hl4).2 i z_a_i hz_a_i
        subst hr21
        obtain ⟨z_b_i, hz_b_i⟩ : ∃ z, (b)[i]? = some z := ⟨_, List.getElem?_eq_getElem (by omega)⟩
        obtain ⟨b40, o41, cs45, ha42, hr43, hat44⟩ := (sl_b.mono hl4).2 i z_b_i hz_b_i
        subst hr43
        refine WC.draw 8 [(0, .slice (a_a) (a).length (a_c)), (1, .slice (b_a) (b).length (b_c)), (5, .int .i64 (((i : Nat) : Int)))] [fun _ v => v = .slice (a_a) (a).length (a_c), fun _ v => v = .int .i64 (((i : Nat) : Int)), fun _ v => v = .pointer (some ⟨b18, (o19 + i * RSeen2.n), none⟩), fun _ v => v = .agg #[.string (B (z_a_i.name)), .bool (z_a_i.there), .string (B (z_a_i.text))], fun _ v => v = .slice (b_a) (b).length (b_c), fun _ v => v = .int .i64 (((i : Nat) : Int)), fun _ v => v = .pointer (some ⟨b40, (o41 + i * RSeen2.n), none⟩), fun _ v => v = .agg #[.string (B (z_b_i.name)), .bool (z_b_i.there), .string (B (z_b_i.text))]] hS1 (by kernel_rfl) (by kernel_rfl) (MonoFs.pure (MonoFs.pure (MonoFs.pure (MonoFs.pure (MonoFs.pure (MonoFs.pure (MonoFs.pure (MonoFs.pure MonoFs.nil)))))))) ⟨rfl, rfl, rfl, trivial⟩ ⟨?_, ?_, ?_, ?_, ?_, ?_, ?_, ?_, trivial⟩ ?_
        · intro r_ w51 h52 hl53 hS50 hb_ hp_
          obtain ⟨b0_, b1_, b2_, _⟩ := hb_
          refine WL.val1 (R_move (v := .slice (a_a) (a).length (a_c)) b0_) ?_
          refine WL.nil ?_
          exact ⟨rfl, _, _, rfl, (Hp.le_refl _), rfl, hS50⟩
        · intro r_ w55 h56 hl57 hS54 hb_ hp_
          obtain ⟨b0_, b1_, b2_, _⟩ := hb_
          refine WL.val1 (R_move (v := .int .i64 (((i : Nat) : Int))) b2_) ?_
          refine WL.nil ?_
          exact ⟨rfl, _, _, rfl, (Hp.le_refl _), rfl, hS54⟩
        · intro r_ w59 h60 hl61 hS58 hb_ hp_
          obtain ⟨b0_, b1_, b2_, _⟩ := hb_
          obtain ⟨p0_, p1_, _⟩ := hp_
          have p0_ : r_ 17 = .slice (a_a) (a).length (a_c) := p0_
          have p1_ : r_ 18 = .int .i64 (((i : Nat) : Int)) := p1_
          refine WL.val1 (R_indexAddrE (i := ((i : Nat) : Int)) (m := i) ha20 p0_ p1_ Tryd.underlying28 (Tryd.sizeOf57 _) (by first | rfl | (omega)) (by omega)) ?_
          refine WL.nil ?_
          exact ⟨rfl, _, _, rfl, (Hp.le_refl _), rfl, hS58⟩
        · intro r_ w63 h64 hl65 hS62 hb_ hp_
          obtain ⟨b0_, b1_, b2_, _⟩ := hb_
          obtain ⟨p0_, _⟩ := hp_
          have p0_ : r_ 19 = .pointer (some ⟨b18, (o19 + i * RSeen2.n), none⟩) := p0_
          refine WL.val1 (R_loadCA (cs := [.string (B (z_a_i.name)), .bool (z_a_i.there), .string (B (z_a_i.text))]) hS62 p0_ (hat22.mono hl65) Tryd.isAgg57 Tryd.sizeOf57 rfl) ?_
          refine WL.nil ?_
          exact ⟨rfl, _, _, rfl, (Hp.le_refl _), rfl, hS62⟩
        · intro r_ w67 h68 hl69 hS66 hb_ hp_
          obtain ⟨b0_, b1_, b2_, _⟩ := hb_
          refine WL.val1 (R_move (v := .slice (b_a) (b).length (b_c)) b1_) ?_
          refine WL.nil ?_
          exact ⟨rfl, _, _, rfl, (Hp.le_refl _), rfl, hS66⟩
        · intro r_ w71 h72 hl73 hS70 hb_ hp_
          obtain ⟨b0_, b1_, b2_, _⟩ := hb_
          refine WL.val1 (R_move (v := .int .i64 (((i : Nat) : Int))) b2_) ?_
          refine WL.nil ?_
          exact ⟨rfl, _, _, rfl, (Hp.le_refl _), rfl, hS70⟩
        · intro r_ w75 h76 hl77 hS74 hb_ hp_
          obtain ⟨b0_, b1_, b2_, _⟩ := hb_
          obtain ⟨p0_, p1_, _⟩ := hp_
          have p0_ : r_ 21 = .slice (b_a) (b).length (b_c) := p0_
          have p1_ : r_ 22 = .int .i64 (((i : Nat) : Int)) := p1_
          refine WL.val1 (R_indexAddrE (i := ((i : Nat) : Int)) (m := i) ha42 p0_ p1_ Tryd.underlying28 (Tryd.sizeOf57 _) (by first | rfl | (omega)) (by omega)) ?_
          refine WL.nil ?_
          exact ⟨rfl, _, _, rfl, (Hp.le_refl _), rfl, hS74⟩
        · intro r_ w79 h80 hl81 hS78 hb_ hp_
          obtain ⟨b0_, b1_, b2_, _⟩ := hb_
          obtain ⟨p0_, _⟩ := hp_
          have p0_ : r_ 23 = .pointer (some ⟨b40, (o41 + i * RSeen2.n), none⟩) := p0_
          refine WL.val1 (R_loadCA (cs := [.string (B (z_b_i.name)), .bool (z_b_i.there), .string (B (z_b_i.text))]) hS78 p0_ (hat44.mono hl81) Tryd.isAgg57 Tryd.sizeOf57 rfl) ?_
          refine WL.nil ?_
          exact ⟨rfl, _, _, rfl, (Hp.le_refl _), rfl, hS78⟩
        · intro r_ w83 h84 hl85 hS82 hb_ hf_
          obtain ⟨b0_, b1_, b2_, _⟩ := hb_
          obtain ⟨q0_, q1_, q2_, q3_, q4_, q5_, q6_, q7_, _⟩ := hf_
          refine WL.frame [(0, .slice (a_a) (a).length (a_c)), (1, .slice (b_a) (b).length (b_c)), (5, .int .i64 (((i : Nat) : Int))), (17, .slice (a_a) (a).length (a_c)), (18, .int .i64 (((i : Nat) : Int))), (19, .pointer (some ⟨b18, (o19 + i * RSeen2.n), none⟩)), (20, .agg #[.string (B (z_a_i.name)), .bool (z_a_i.there), .string (B (z_a_i.text))]), (21, .slice (b_a) (b).length (b_c)), (22, .int .i64 (((i : Nat) : Int))), (23, .pointer (some ⟨b40, (o41 + i * RSeen2.n), none⟩)), (24, .agg #[.string (B (z_b_i.name)), .bool (z_b_i.there), .string (B (z_b_i.text))])] ⟨b0_, b1_, b2_, q0_, q1_, q2_, q3_, q4_, q5_, q6_, q7_, trivial⟩ (fun r_ => ?_)
          refine WL.val1 (R_aggNeq (c := (decide (z_a_i.name = z_b_i.name) && (decide (z_a_i.there = z_b_i.there) && (decide (z_a_i.text = z_b_i.text) && true)))) (xs := #[.string (B (z_a_i.name)), .bool (z_a_i.there), .string (B (z_a_i.text))]) (ys := #[.string (B (z_b_i.name)), .bool (z_b_i.there), .string (B (z_b_i.text))]) rfl rfl (by kernel_rfl) Tryd.underlying57 (by kernel_rfl) (eqFields_cons (by decide) Tryd.isAgg9 rfl rfl (eqIn_str Tryd.underlying9) (eqFields_cons (by decide) Tryd.isAgg4 rfl rfl (eqIn_bool Tryd.underlying4) (eqFields_cons (by decide) Tryd.isAgg9 rfl rfl (eqIn_str Tryd.underlying9) eqFields_nil)))) ?_
          refine WL.nil ?_
          refine then_normal ?_
          refine WC.condI (¬ (((z_a_i.name = z_b_i.name) ∧ ((z_a_i.there = z_b_i.there) ∧ ((z_a_i.text = z_b_i.text) ∧ True))))) (b := (!((decide (z_a_i.name = z_b_i.name) && (decide (z_a_i.there = z_b_i.there) && (decide (z_a_i.text = z_b_i.text) && true)))))) rfl (b_not (b_and b_dec (b_and b_dec (b_and b_dec b_true)))) (fun c2 => ?_) (fun c2 => ?_)
          · skip
            refine WC.seq ?_
            refine WC.region ?_
            refine WL.val1 (R_assign (v := .bool (false)) rfl) ?_
            refine WL.nil ?_
            refine then_normal ?_
            refine WC.ret ?_
            refine block_ret ?_
            refine then_ret ?_
            refine then_ret ?_
            refine block_ret ?_
            refine then_ret ?_
            refine top_ret (.bool (false)) (gives1 rfl rfl) ?_
            exact ⟨(by apply congrArg Value.bool; rw [← f2, all_step (zip_at hz_a_i hz_b_i), decide_eq_false (fun hh => c2 ⟨hh.1, hh.2.1, hh.2.2, trivial⟩)]; rfl), (hS82.weaken_h (hl4.trans hl85))⟩
          · skip
            refine WC.skip ?_
            refine block_normal ?_
            refine then_normal ?_
            refine WC.region ?_
            refine WL.val1 (R_move (v := .int .i64 (((i : Nat) : Int))) rfl) ?_
            refine WL.val1 (R_add_i (a := ((i : Nat) : Int)) (b := 1) rfl rfl (by omega)) ?_
            refine WL.val1 (R_assign (v := .int .i64 ((((i : Nat) : Int) + 1))) rfl) ?_
            refine WL.nil ?_
            refine then_normal ?_
            exact ⟨(i + 1), ⟨rfl, rfl, (by first | rfl | (apply congrArg (Value.int .i64); omega) | simp), trivial⟩, ⟨h84, (hl4.trans hl85), hS82, (by (try dsimp only); first | assumption | omega | simp), (by (try dsimp only); rw [← f2, all_step (zip_at hz_a_i hz_b_i)]; have c3 := Decidable.not_not.1 c2; rw [decide_eq_true (⟨c3.1, c3.2.1, c3.2.2.1⟩ : _ ∧ _ ∧ _), Bool.true_and])⟩, (by first | (simp only []; omega) | (simp; omega))⟩
      · skip
        refine WC.exit ?_
        refine then_exit ?_
        refine then_exit ?_
        refine block_exit ?_
        refine then_normal ?_
        refine WC.seq ?_
        refine WC.region ?_
        refine WL.val1 (R_assign (v := .bool (true)) rfl) ?_
        refine WL.nil ?_
        refine then_normal ?_
        refine WC.ret ?_
        refine top_ret (.bool (true)) (gives1 rfl rfl) ?_
        exact ⟨(by apply congrArg Value.bool; rw [← f2, all_end (by rw [List.length_zip]; omega)]), (hS1.weaken_h hl4)⟩
end Go.Stet
