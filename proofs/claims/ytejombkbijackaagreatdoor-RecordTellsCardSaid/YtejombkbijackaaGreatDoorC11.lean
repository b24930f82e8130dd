/- Contracts of functions of the program, of the references and of the law: each says what the function returns, in plain Lean, and that it leaves all memory as it was; each under the conditions that its own statement names. -/
import Derived.Test.YtejombkbijackaaGreatDoorSeatZ2
import Derived.Test.YtejombkbijackaaGreatDoorBldZ
import Derived.Test.YtejombkbijackaaGreatDoorEng13
import Derived.Test.YtejombkbijackaaGreatDoorSpec11
import Derived.Test.YtejombkbijackaaGreatDoorC10
set_option linter.all false
set_option linter.unusedSimpArgs false
set_option linter.unusedVariables false
namespace Go.Stet
open Go Go.Eng Go.Proofs
set_option maxHeartbeats 400000 in
theorem law_Seens (l : List Seen) (l_a : Option Addr) (l_c : Nat) (hl : l.length ≤ 1000000) : FnC GG Tryz.prog 18 (fun h => Sl RSeen h l l_a l_c) [.slice (l_a) (l).length (l_c)] (fun h v => ∃ (a : Option Addr) (c : Nat), v = .slice (a) (l).length (c) ∧ (Sl RSeen2 h l a c)) := by
  intro Γ h L w hpre hS
  have sl_l := hpre
  refine Ret.body Tryz.func18 rfl Tryz.ntmps18 (Nat.le_of_ble_eq_true rfl) ?_
  refine WC.seq ?_
  refine WC.region ?_
  refine WL.val1 (R_assign (v := .slice none 0 0) rfl) ?_
  refine WL.nil ?_
  refine then_normal ?_
  refine WC.seq ?_
  refine WC.region ?_
  refine S_buildSlice0 (R := RSeen2) (e := 72) hS Tryz.underlying50 (Tryz.sizeOf72) ?_
  intro w2 hS1
  refine WL.val1 (R_assign (v := .slice (some ⟨w.heap.size, 0, none⟩) 0 (0)) rfl) ?_
  refine WL.nil ?_
  refine then_normal ?_
  refine WC.seq ?_
  refine WC.seq ?_
  refine WC.region ?_
  refine WL.val1 (R_assign (v := .int .i64 (0)) rfl) ?_
  refine WL.nil ?_
  refine then_normal ?_
  refine WC.block ?_
  refine WC.loopL (σ := Nat × (List Seen) × (Option Addr) × Nat)
    (fun (q_ : Nat × (List Seen) × (Option Addr) × Nat) => (fun (i : Nat) (acc : List Seen) (acc_a : Option Addr) (acc_c : Nat) => [(0, .slice (l_a) (l).length (l_c)), (3, .slice (acc_a) (acc).length (acc_c)), (4, .int .i64 (((i : Nat) : Int)))]) (q_.1) (q_.2.1) (q_.2.2.1) (q_.2.2.2))
    (fun (q_ : Nat × (List Seen) × (Option Addr) × Nat) (w_ : World) => (fun (i : Nat) (acc : List Seen) (acc_a : Option Addr) (acc_c : Nat) => ∃ h5 : Hp, h.le h5 ∧ St Γ h5 (grow 72 RSeen2 h5 (acc) (acc_a) (acc_c) :: L) w_ ∧ (i ≤ l.length) ∧ (acc = l.take i)) (q_.1) (q_.2.1) (q_.2.2.1) (q_.2.2.2))
    (fun (q_ : Nat × (List Seen) × (Option Addr) × Nat) => (fun (i : Nat) (acc : List Seen) (acc_a : Option Addr) (acc_c : Nat) => l.length - i) (q_.1) (q_.2.1) (q_.2.2.1) (q_.2.2.2)) (0, ([] : List Seen), some ⟨w.heap.size, 0, none⟩, 0) ?_ ?_ ?_
  · exact ⟨rfl, (by first | rfl | (apply congrArg (Value.int .i64); omega) | simp), (by first | rfl | (apply congrArg (Value.int .i64); omega) | simp), trivial⟩
  · exact ⟨h, Hp.le_refl _, hS1, (by first | assumption | omega | simp), (by rfl)⟩
  · rintro ⟨i, acc, acc_a, acc_c⟩ r7 w4 ⟨h5, hl6, hS3, f1, f2⟩
    try dsimp only at f1 f2
    have f3 : acc.length = i := by rw [f2, List.length_take]; omega
    refine WC.seq ?_
    refine WC.seq ?_
    refine WC.region ?_
    refine WL.val1 (R_move (v := .int .i64 (((i : Nat) : Int))) rfl) ?_
    refine WL.val1 (R_move (v := .slice (l_a) (l).length (l_c)) rfl) ?_
    refine WL.val1 (R_len_slice (n := (l).length) rfl Tryz.underlying39) ?_
    refine WL.val1 (R_lss (a := ((i : Nat) : Int)) (b := (((l).length : Nat) : Int)) rfl rfl) ?_
    refine WL.nil ?_
    refine then_normal ?_
    refine WC.condP (((i : Nat) : Int) < (((l).length : Nat) : Int)) rfl (fun c0 => ?_) (fun c0 => ?_)
    · skip
      refine WC.skip ?_
      refine then_normal ?_
      refine WC.seq ?_
      refine WC.block ?_
      obtain ⟨z_l_i, hz_l_i⟩ : ∃ z, (l)[i]? = some z := ⟨_, List.getElem?_eq_getElem (by omega)⟩
      obtain ⟨b24, o25, cs29, ha26, hr27, hat28⟩ := (sl_l.mono hl6).2 i z_l_i hz_l_i
      subst hr27
      refine WC.draw 18 [(0, .slice (l_a) (l).length (l_c)), (3, .slice (acc_a) (acc).length (acc_c)), (4, .int .i64 (((i : Nat) : Int)))] [fun _ v => v = .slice (acc_a) (acc).length (acc_c), fun _ v => v = .slice (l_a) (l).length (l_c), fun _ v => v = .int .i64 (((i : Nat) : Int)), fun _ v => v = .pointer (some ⟨b24, (o25 + i * RSeen.n), none⟩), fun _ v => v = .pointer (some ⟨b24, (o25 + i * RSeen.n), none⟩), fun _ v => v = .string (B (z_l_i.name)), fun _ v => v = .slice (l_a) (l).length (l_c), fun _ v => v = .int .i64 (((i : Nat) : Int)), fun _ v => v = .pointer (some ⟨b24, (o25 + i * RSeen.n), none⟩), fun _ v => v = .pointer (some ⟨b24, (o25 + i * RSeen.n) + 1, none⟩), fun _ v => v = .bool (z_l_i.there), fun _ v => v = .slice (l_a) (l).length (l_c), fun _ v => v = .int .i64 (((i : Nat) : Int)), fun _ v => v = .pointer (some ⟨b24, (o25 + i * RSeen.n), none⟩), fun _ v => v = .pointer (some ⟨b24, (o25 + i * RSeen.n) + 2, none⟩), fun _ v => v = .string (B (z_l_i.text)), fun _ v => v = .agg #[.string (B (z_l_i.name)), .bool (z_l_i.there), .string (B (z_l_i.text))], fun h v => ∃ (b0_ : Nat), v = .slice (some ⟨b0_, 0, none⟩) 1 (1) ∧ Sl RSeen2 h ([{ name := z_l_i.name, there := z_l_i.there, text := z_l_i.text : Seen }]) (some ⟨b0_, 0, none⟩) (1)] hS3 (by kernel_rfl) (by kernel_rfl) (MonoFs.pure (MonoFs.pure (MonoFs.pure (MonoFs.pure (MonoFs.pure (MonoFs.pure (MonoFs.pure (MonoFs.pure (MonoFs.pure (MonoFs.pure (MonoFs.pure (MonoFs.pure (MonoFs.pure (MonoFs.pure (MonoFs.pure (MonoFs.pure (MonoFs.pure (MonoFs.cons (fun _ _ _ hl ⟨x0, e, y0⟩ => ⟨x0, e, y0.mono hl⟩) MonoFs.nil)))))))))))))))))) ⟨rfl, rfl, rfl, trivial⟩ ⟨?_, ?_, ?_, ?_, ?_, ?_, ?_, ?_, ?_, ?_, ?_, ?_, ?_, ?_, ?_, ?_, ?_, ?_, trivial⟩ ?_
      · intro r_ w96 h97 hl98 hS95 hb_ hp_
        obtain ⟨b0_, b1_, b2_, _⟩ := hb_
        refine WL.val1 (R_move (v := .slice (acc_a) (acc).length (acc_c)) b1_) ?_
        refine WL.nil ?_
        exact ⟨rfl, _, _, rfl, (Hp.le_refl _), rfl, hS95⟩
      · intro r_ w100 h101 hl102 hS99 hb_ hp_
        obtain ⟨b0_, b1_, b2_, _⟩ := hb_
        refine WL.val1 (R_move (v := .slice (l_a) (l).length (l_c)) b0_) ?_
        refine WL.nil ?_
        exact ⟨rfl, _, _, rfl, (Hp.le_refl _), rfl, hS99⟩
      · intro r_ w104 h105 hl106 hS103 hb_ hp_
        obtain ⟨b0_, b1_, b2_, _⟩ := hb_
        refine WL.val1 (R_move (v := .int .i64 (((i : Nat) : Int))) b2_) ?_
        refine WL.nil ?_
        exact ⟨rfl, _, _, rfl, (Hp.le_refl _), rfl, hS103⟩
      · intro r_ w108 h109 hl110 hS107 hb_ hp_
        obtain ⟨b0_, b1_, b2_, _⟩ := hb_
        obtain ⟨p0_, p1_, _⟩ := hp_
        have p0_ : r_ 13 = .slice (l_a) (l).length (l_c) := p0_
        have p1_ : r_ 14 = .int .i64 (((i : Nat) : Int)) := p1_
        refine WL.val1 (R_indexAddrE (i := ((i : Nat) : Int)) (m := i) ha26 p0_ p1_ Tryz.underlying39 (Tryz.sizeOf44 _) (by first | rfl | (omega)) (by omega)) ?_
        refine WL.nil ?_
        exact ⟨rfl, _, _, rfl, (Hp.le_refl _), rfl, hS107⟩
      · intro r_ w112 h113 hl114 hS111 hb_ hp_
        obtain ⟨b0_, b1_, b2_, _⟩ := hb_
        obtain ⟨p0_, _⟩ := hp_
        have p0_ : r_ 15 = .pointer (some ⟨b24, (o25 + i * RSeen.n), none⟩) := p0_
        refine WL.val1 (R_fieldAddr (b := b24) (off := (o25 + i * RSeen.n)) (m := 0) p0_ (fun _ => by kernel_rfl)) ?_
        refine WL.nil ?_
        exact ⟨rfl, _, _, rfl, (Hp.le_refl _), rfl, hS111⟩
      · intro r_ w116 h117 hl118 hS115 hb_ hp_
        obtain ⟨b0_, b1_, b2_, _⟩ := hb_
        obtain ⟨p0_, _⟩ := hp_
        have p0_ : r_ 16 = .pointer (some ⟨b24, (o25 + i * RSeen.n), none⟩) := p0_
        refine WL.val1 (R_loadC (v := .string (B (z_l_i.name))) hS115 p0_ ((hat28.mono hl118).sub 0 1 (cs' := [.string (B (z_l_i.name))]) rfl) Tryz.isAgg9 rfl) ?_
        refine WL.nil ?_
        exact ⟨rfl, _, _, rfl, (Hp.le_refl _), rfl, hS115⟩
      · intro r_ w120 h121 hl122 hS119 hb_ hp_
        obtain ⟨b0_, b1_, b2_, _⟩ := hb_
        refine WL.val1 (R_move (v := .slice (l_a) (l).length (l_c)) b0_) ?_
        refine WL.nil ?_
        exact ⟨rfl, _, _, rfl, (Hp.le_refl _), rfl, hS119⟩
      · intro r_ w124 h125 hl126 hS123 hb_ hp_
        obtain ⟨b0_, b1_, b2_, _⟩ := hb_
        refine WL.val1 (R_move (v := .int .i64 (((i : Nat) : Int))) b2_) ?_
        refine WL.nil ?_
        exact ⟨rfl, _, _, rfl, (Hp.le_refl _), rfl, hS123⟩
      · intro r_ w128 h129 hl130 hS127 hb_ hp_
        obtain ⟨b0_, b1_, b2_, _⟩ := hb_
        obtain ⟨p0_, p1_, _⟩ := hp_
        have p0_ : r_ 18 = .slice (l_a) (l).length (l_c) := p0_
        have p1_ : r_ 19 = .int .i64 (((i : Nat) : Int)) := p1_
        refine WL.val1 (R_indexAddrE (i := ((i : Nat) : Int)) (m := i) ha26 p0_ p1_ Tryz.underlying39 (Tryz.sizeOf44 _) (by first | rfl | (omega)) (by omega)) ?_
        refine WL.nil ?_
        exact ⟨rfl, _, _, rfl, (Hp.le_refl _), rfl, hS127⟩
      · intro r_ w132 h133 hl134 hS131 hb_ hp_
        obtain ⟨b0_, b1_, b2_, _⟩ := hb_
        obtain ⟨p0_, _⟩ := hp_
        have p0_ : r_ 20 = .pointer (some ⟨b24, (o25 + i * RSeen.n), none⟩) := p0_
        refine WL.val1 (R_fieldAddr (b := b24) (off := (o25 + i * RSeen.n)) (m := 1) p0_ (fun _ => by kernel_rfl)) ?_
        refine WL.nil ?_
        exact ⟨rfl, _, _, rfl, (Hp.le_refl _), rfl, hS131⟩
      · intro r_ w136 h137 hl138 hS135 hb_ hp_
        obtain ⟨b0_, b1_, b2_, _⟩ := hb_
        obtain ⟨p0_, _⟩ := hp_
        have p0_ : r_ 21 = .pointer (some ⟨b24, (o25 + i * RSeen.n) + 1, none⟩) := p0_
        refine WL.val1 (R_loadC (v := .bool (z_l_i.there)) hS135 p0_ ((hat28.mono hl138).sub 1 1 (cs' := [.bool (z_l_i.there)]) rfl) Tryz.isAgg4 rfl) ?_
        refine WL.nil ?_
        exact ⟨rfl, _, _, rfl, (Hp.le_refl _), rfl, hS135⟩
      · intro r_ w140 h141 hl142 hS139 hb_ hp_
        obtain ⟨b0_, b1_, b2_, _⟩ := hb_
        refine WL.val1 (R_move (v := .slice (l_a) (l).length (l_c)) b0_) ?_
        refine WL.nil ?_
        exact ⟨rfl, _, _, rfl, (Hp.le_refl _), rfl, hS139⟩
      · intro r_ w144 h145 hl146 hS143 hb_ hp_
        obtain ⟨b0_, b1_, b2_, _⟩ := hb_
        refine WL.val1 (R_move (v := .int .i64 (((i : Nat) : Int))) b2_) ?_
        refine WL.nil ?_
        exact ⟨rfl, _, _, rfl, (Hp.le_refl _), rfl, hS143⟩
      · intro r_ w148 h149 hl150 hS147 hb_ hp_
        obtain ⟨b0_, b1_, b2_, _⟩ := hb_
        obtain ⟨p0_, p1_, _⟩ := hp_
        have p0_ : r_ 23 = .slice (l_a) (l).length (l_c) := p0_
        have p1_ : r_ 24 = .int .i64 (((i : Nat) : Int)) := p1_
        refine WL.val1 (R_indexAddrE (i := ((i : Nat) : Int)) (m := i) ha26 p0_ p1_ Tryz.underlying39 (Tryz.sizeOf44 _) (by first | rfl | (omega)) (by omega)) ?_
        refine WL.nil ?_
        exact ⟨rfl, _, _, rfl, (Hp.le_refl _), rfl, hS147⟩
      · intro r_ w152 h153 hl154 hS151 hb_ hp_
        obtain ⟨b0_, b1_, b2_, _⟩ := hb_
        obtain ⟨p0_, _⟩ := hp_
        have p0_ : r_ 25 = .pointer (some ⟨b24, (o25 + i * RSeen.n), none⟩) := p0_
        refine WL.val1 (R_fieldAddr (b := b24) (off := (o25 + i * RSeen.n)) (m := 2) p0_ (fun _ => by kernel_rfl)) ?_
        refine WL.nil ?_
        exact ⟨rfl, _, _, rfl, (Hp.le_refl _), rfl, hS151⟩
      · intro r_ w156 h157 hl158 hS155 hb_ hp_
        obtain ⟨b0_, b1_, b2_, _⟩ := hb_
        obtain ⟨p0_, _⟩ := hp_
        have p0_ : r_ 26 = .pointer (some ⟨b24, (o25 + i * RSeen.n) + 2, none⟩) := p0_
        refine WL.val1 (R_loadC (v := .string (B (z_l_i.text))) hS155 p0_ ((hat28.mono hl158).sub 2 1 (cs' := [.string (B (z_l_i.text))]) rfl) Tryz.isAgg9 rfl) ?_
        refine WL.nil ?_
        exact ⟨rfl, _, _, rfl, (Hp.le_refl _), rfl, hS155⟩
      · intro r_ w160 h161 hl162 hS159 hb_ hp_
        obtain ⟨b0_, b1_, b2_, _⟩ := hb_
        obtain ⟨p0_, p1_, p2_, _⟩ := hp_
        have p0_ : r_ 17 = .string (B (z_l_i.name)) := p0_
        have p1_ : r_ 22 = .bool (z_l_i.there) := p1_
        have p2_ : r_ 27 = .string (B (z_l_i.text)) := p2_
        refine WL.val1 (R_build (vs := [(0, .string (B (z_l_i.name))), (1, .bool (z_l_i.there)), (2, .string (B (z_l_i.text)))]) (v := .agg #[.string (B (z_l_i.name)), .bool (z_l_i.there), .string (B (z_l_i.text))]) (pmap3 p0_ p1_ p2_) (fun _ => by kernel_rfl)) ?_
        refine WL.nil ?_
        exact ⟨rfl, _, _, rfl, (Hp.le_refl _), rfl, hS159⟩
      · intro r_ w164 h165 hl166 hS163 hb_ hp_
        obtain ⟨b0_, b1_, b2_, _⟩ := hb_
        obtain ⟨p0_, _⟩ := hp_
        have p0_ : r_ 28 = .agg #[.string (B (z_l_i.name)), .bool (z_l_i.there), .string (B (z_l_i.text))] := p0_
        refine S_buildSliceC (R := RSeen2) (m := 1) (vs := [(0, .agg #[.string (B (z_l_i.name)), .bool (z_l_i.there), .string (B (z_l_i.text))])]) (cells := [.string (B (z_l_i.name)), .bool (z_l_i.there), .string (B (z_l_i.text))]) (xs := [{ name := z_l_i.name, there := z_l_i.there, text := z_l_i.text : Seen }]) hS163 Tryz.underlying50 Tryz.sizeOf72 Tryz.zeroValue72 (by decide) (by decide) (pmap1 (v := .agg #[.string (B (z_l_i.name)), .bool (z_l_i.there), .string (B (z_l_i.text))]) p0_) (by kernel_rfl) (by exact (⟨[.string (B (z_l_i.name)), .bool (z_l_i.there), .string (B (z_l_i.text))], _, rfl, rfl, rfl⟩ : Flat RSeen2 _ [{ name := z_l_i.name, there := z_l_i.there, text := z_l_i.text : Seen }] _)) rfl ?_
        intro h169 b171 w168 hl170 hs172 hS167
        refine WL.nil ?_
        exact ⟨rfl, _, _, rfl, hl170, ⟨b171, rfl, hs172⟩, hS167⟩
      · intro r_ w176 h177 hl178 hS175 hb_ hf_
        obtain ⟨b0_, b1_, b2_, _⟩ := hb_
        obtain ⟨q0_, q1_, q2_, q3_, q4_, q5_, q6_, q7_, q8_, q9_, q10_, q11_, q12_, q13_, q14_, q15_, q16_, q17_, _⟩ := hf_
        obtain ⟨b179, q17_, hs180⟩ := q17_
        refine WL.frame (((0, .slice (l_a) (l).length (l_c))) :: ((3, .slice (acc_a) (acc).length (acc_c))) :: ((4, .int .i64 (((i : Nat) : Int)))) :: ((12, .slice (acc_a) (acc).length (acc_c))) :: ((13, .slice (l_a) (l).length (l_c))) :: ((14, .int .i64 (((i : Nat) : Int)))) :: ((15, .pointer (some ⟨b24, (o25 + i * RSeen.n), none⟩))) :: ((16, .pointer (some ⟨b24, (o25 + i * RSeen.n), none⟩))) :: ((17, .string (B (z_l_i.name)))) :: ((18, .slice (l_a) (l).length (l_c))) :: ((19, .int .i64 (((i : Nat) : Int)))) :: ((20, .pointer (some ⟨b24, (o25 + i * RSeen.n), none⟩))) :: ((21, .pointer (some ⟨b24, (o25 + i * RSeen.n) + 1, none⟩))) :: ((22, .bool (z_l_i.there))) :: ((23, .slice (l_a) (l).length (l_c))) :: ((24, .int .i64 (((i : Nat) : Int)))) :: ((25, .pointer (some ⟨b24, (o25 + i * RSeen.n), none⟩))) :: ((26, .pointer (some ⟨b24, (o25 + i * RSeen.n) + 2, none⟩))) :: ((27, .string (B (z_l_i.text)))) :: ((28, .agg #[.string (B (z_l_i.name)), .bool (z_l_i.there), .string (B (z_l_i.text))])) :: ((29, .slice (some ⟨b179, 0, none⟩) 1 (1))) :: []) ⟨b0_, b1_, b2_, q0_, q1_, q2_, q3_, q4_, q5_, q6_, q7_, q8_, q9_, q10_, q11_, q12_, q13_, q14_, q15_, q16_, q17_, trivial⟩ (fun r_ => ?_)
        refine S_append (info := Tryz.t72) (R := RSeen2) (xs := acc) (ys := [{ name := z_l_i.name, there := z_l_i.there, text := z_l_i.text : Seen }]) (a := acc_a) (c := acc_c) 0 Tryz.underlying50 (by kernel_rfl) rfl rfl rfl (by decide) 40 rfl hS175 rfl hl178 hs180 rfl rfl (by (try simp only [List.length_append, List.length_cons, List.length_nil]); omega) (by (try simp only [List.length_append, List.length_cons, List.length_nil]); omega) ?_
        intro a181 c182 w183 hS184
        refine WL.val1 (R_assign (v := .slice (a181) ((acc ++ [{ name := z_l_i.name, there := z_l_i.there, text := z_l_i.text : Seen }])).length (c182)) rfl) ?_
        refine WL.nil ?_
        refine block_normal ?_
        refine then_normal ?_
        refine WC.region ?_
        refine WL.val1 (R_move (v := .int .i64 (((i : Nat) : Int))) rfl) ?_
        refine WL.val1 (R_add_i (a := ((i : Nat) : Int)) (b := 1) rfl rfl (by omega)) ?_
        refine WL.val1 (R_assign (v := .int .i64 ((((i : Nat) : Int) + 1))) rfl) ?_
        refine WL.nil ?_
        refine then_normal ?_
        exact ⟨(i + 1, (acc ++ [{ name := z_l_i.name, there := z_l_i.there, text := z_l_i.text : Seen }]), a181, c182), ⟨rfl, (by first | rfl | (apply congrArg (Value.int .i64); omega) | simp), (by first | rfl | (apply congrArg (Value.int .i64); omega) | simp), trivial⟩, ⟨h177, (hl6.trans hl178), hS184, (by (try dsimp only); first | assumption | omega | simp), (by (try dsimp only); rw [f2, take_succ' hz_l_i])⟩, (by first | (simp only []; omega) | (simp; omega))⟩
    · skip
      refine WC.exit ?_
      refine then_exit ?_
      refine then_exit ?_
      refine block_exit ?_
      refine then_normal ?_
      refine WC.seq ?_
      refine WC.region ?_
      refine WL.val1 (R_move (v := .slice (acc_a) (acc).length (acc_c)) rfl) ?_
      refine WL.val1 (R_assign (v := .slice (acc_a) (acc).length (acc_c)) rfl) ?_
      refine WL.nil ?_
      refine then_normal ?_
      refine WC.ret ?_
      refine top_ret (.slice (acc_a) (acc).length (acc_c)) (gives1 rfl rfl) ?_
      obtain ⟨h185, hl186, hs187, hS188⟩ := hS3.growCommit (i := 0) rfl (Hp.le_refl _)
      have e_ : l = acc := by rw [f2, List.take_of_length_le (by omega)]
      exact ⟨h185, (hl6.trans hl186), ⟨acc_a, acc_c, (by rw [e_]), (by first | exact hs187 | (rw [e_]; exact hs187))⟩, hS188.pop⟩
set_option maxHeartbeats 400000 in
theorem law_Refs (l : List Rec) (l_a : Option Addr) (l_c : Nat) (hl : l.length ≤ 1000000) (hz : ∀ x ∈ l, x.seens.length ≤ 1000000) : FnC GG Tryz.prog 7 (fun h => Sl RRec h l l_a l_c) [.slice (l_a) (l).length (l_c)] (fun h v => ∃ (a : Option Addr) (c : Nat), v = .slice (a) (l).length (c) ∧ (Sl RRec2 h l a c)) := by
  intro Γ h L w hpre hS
  have sl_l := hpre
  refine Ret.body Tryz.func7 rfl Tryz.ntmps7 (Nat.le_of_ble_eq_true rfl) ?_
  refine WC.seq ?_
  refine WC.region ?_
  refine WL.val1 (R_assign (v := .slice none 0 0) rfl) ?_
  refine WL.nil ?_
  refine then_normal ?_
  refine WC.seq ?_
  refine WC.region ?_
  refine S_buildSlice0 (R := RRec2) (e := 52) hS Tryz.underlying28 (Tryz.sizeOf52) ?_
  intro w2 hS1
  refine WL.val1 (R_assign (v := .slice (some ⟨w.heap.size, 0, none⟩) 0 (0)) rfl) ?_
  refine WL.nil ?_
  refine then_normal ?_
  refine WC.seq ?_
  refine WC.seq ?_
  refine WC.region ?_
  refine WL.val1 (R_assign (v := .int .i64 (0)) rfl) ?_
  refine WL.nil ?_
  refine then_normal ?_
  refine WC.block ?_
  refine WC.loopL (σ := Nat × (List Rec) × (Option Addr) × Nat)
    (fun (q_ : Nat × (List Rec) × (Option Addr) × Nat) => (fun (i : Nat) (acc : List Rec) (acc_a : Option Addr) (acc_c : Nat) => [(0, .slice (l_a) (l).length (l_c)), (3, .slice (acc_a) (acc).length (acc_c)), (4, .int .i64 (((i : Nat) : Int)))]) (q_.1) (q_.2.1) (q_.2.2.1) (q_.2.2.2))
    (fun (q_ : Nat × (List Rec) × (Option Addr) × Nat) (w_ : World) => (fun (i : Nat) (acc : List Rec) (acc_a : Option Addr) (acc_c : Nat) => ∃ h5 : Hp, h.le h5 ∧ St Γ h5 (grow 52 RRec2 h5 (acc) (acc_a) (acc_c) :: L) w_ ∧ (i ≤ l.length) ∧ (acc = l.take i)) (q_.1) (q_.2.1) (q_.2.2.1) (q_.2.2.2))
    (fun (q_ : Nat × (List Rec) × (Option Addr) × Nat) => (fun (i : Nat) (acc : List Rec) (acc_a : Option Addr) (acc_c : Nat) => l.length - i) (q_.1) (q_.2.1) (q_.2.2.1) (q_.2.2.2)) (0, ([] : List Rec), some ⟨w.heap.size, 0, none⟩, 0) ?_ ?_ ?_
  · exact ⟨rfl, (by first | rfl | (apply congrArg (Value.int .i64); omega) | simp), (by first | rfl | (apply congrArg (Value.int .i64); omega) | simp), trivial⟩
  · exact ⟨h, Hp.le_refl _, hS1, (by first | assumption | omega | simp), (by rfl)⟩
  · rintro ⟨i, acc, acc_a, acc_c⟩ r7 w4 ⟨h5, hl6, hS3, f1, f2⟩
    try dsimp only at f1 f2
    have f3 : acc.length = i := by rw [f2, List.length_take]; omega
    refine WC.seq ?_
    refine WC.seq ?_
    refine WC.region ?_
    refine WL.val1 (R_move (v := .int .i64 (((i : Nat) : Int))) rfl) ?_
    refine WL.val1 (R_move (v := .slice (l_a) (l).length (l_c)) rfl) ?_
    refine WL.val1 (R_len_slice (n := (l).length) rfl Tryz.underlying22) ?_
    refine WL.val1 (R_lss (a := ((i : Nat) : Int)) (b := (((l).length : Nat) : Int)) rfl rfl) ?_
    refine WL.nil ?_
    refine then_normal ?_
    refine WC.condP (((i : Nat) : Int) < (((l).length : Nat) : Int)) rfl (fun c0 => ?_) (fun c0 => ?_)
    · skip
      refine WC.skip ?_
      refine then_normal ?_
      refine WC.seq ?_
      refine WC.block ?_
      obtain ⟨z_l_i, hz_l_i⟩ : ∃ z, (l)[i]? = some z := ⟨_, List.getElem?_eq_getElem (by omega)⟩
      obtain ⟨b24, o25, cs29, ha26, hr27, hat28⟩ := (sl_l.mono hl6).2 i z_l_i hz_l_i
      obtain ⟨a30, c31, a32, c33, rfl, hs34, hs35⟩ := hr27
      have hb_l_i := hz z_l_i (List.mem_of_getElem? hz_l_i)
      refine WC.draw 19 [(0, .slice (l_a) (l).length (l_c)), (3, .slice (acc_a) (acc).length (acc_c)), (4, .int .i64 (((i : Nat) : Int)))] [fun _ v => v = .slice (acc_a) (acc).length (acc_c), fun _ v => v = .slice (l_a) (l).length (l_c), fun _ v => v = .int .i64 (((i : Nat) : Int)), fun _ v => v = .pointer (some ⟨b24, (o25 + i * RRec.n), none⟩), fun _ v => v = .pointer (some ⟨b24, (o25 + i * RRec.n), none⟩), fun _ v => v = .string (B (z_l_i.name)), fun _ v => v = .slice (l_a) (l).length (l_c), fun _ v => v = .int .i64 (((i : Nat) : Int)), fun _ v => v = .pointer (some ⟨b24, (o25 + i * RRec.n), none⟩), fun _ v => v = .pointer (some ⟨b24, (o25 + i * RRec.n) + 1, none⟩), fun _ v => v = .slice (a30) (z_l_i.seens).length (c31), fun h v => ∃ (a0_ : Option Addr) (c0_ : Nat), v = .slice (a0_) (z_l_i.seens).length (c0_) ∧ Sl RSeen2 h (z_l_i.seens) (a0_) (c0_), fun _ v => v = .slice (l_a) (l).length (l_c), fun _ v => v = .int .i64 (((i : Nat) : Int)), fun _ v => v = .pointer (some ⟨b24, (o25 + i * RRec.n), none⟩), fun _ v => v = .pointer (some ⟨b24, (o25 + i * RRec.n) + 2, none⟩), fun _ v => v = .slice (a32) (z_l_i.files).length (c33), fun h v => ∃ (a0_ : Option Addr) (c0_ : Nat), v = .agg #[.string (B (z_l_i.name)), .slice (a0_) (z_l_i.seens).length (c0_), .slice (a32) (z_l_i.files).length (c33)] ∧ Sl RSeen2 h (z_l_i.seens) (a0_) (c0_), fun h v => ∃ (b0_ : Nat), v = .slice (some ⟨b0_, 0, none⟩) 1 (1) ∧ Sl RRec2 h ([{ name := z_l_i.name, seens := z_l_i.seens, files := z_l_i.files : Rec }]) (some ⟨b0_, 0, none⟩) (1)] hS3 (by kernel_rfl) (by kernel_rfl) (MonoFs.pure (MonoFs.pure (MonoFs.pure (MonoFs.pure (MonoFs.pure (MonoFs.pure (MonoFs.pure (MonoFs.pure (MonoFs.pure (MonoFs.pure (MonoFs.pure (MonoFs.cons (fun _ _ _ hl ⟨x0, x1, e, y0⟩ => ⟨x0, x1, e, y0.mono hl⟩) (MonoFs.pure (MonoFs.pure (MonoFs.pure (MonoFs.pure (MonoFs.pure (MonoFs.cons (fun _ _ _ hl ⟨x0, x1, e, y0⟩ => ⟨x0, x1, e, y0.mono hl⟩) (MonoFs.cons (fun _ _ _ hl ⟨x0, e, y0⟩ => ⟨x0, e, y0.mono hl⟩) MonoFs.nil))))))))))))))))))) ⟨rfl, rfl, rfl, trivial⟩ ⟨?_, ?_, ?_, ?_, ?_, ?_, ?_, ?_, ?_, ?_, ?_, ?_, ?_, ?_, ?_, ?_, ?_, ?_, ?_, trivial⟩ ?_
      · intro r_ w129 h130 hl131 hS128 hb_ hp_
        obtain ⟨b0_, b1_, b2_, _⟩ := hb_
        refine WL.val1 (R_move (v := .slice (acc_a) (acc).length (acc_c)) b1_) ?_
        refine WL.nil ?_
        exact ⟨rfl, _, _, rfl, (Hp.le_refl _), rfl, hS128⟩
      · intro r_ w133 h134 hl135 hS132 hb_ hp_
        obtain ⟨b0_, b1_, b2_, _⟩ := hb_
        refine WL.val1 (R_move (v := .slice (l_a) (l).length (l_c)) b0_) ?_
        refine WL.nil ?_
        exact ⟨rfl, _, _, rfl, (Hp.le_refl _), rfl, hS132⟩
      · intro r_ w137 h138 hl139 hS136 hb_ hp_
        obtain ⟨b0_, b1_, b2_, _⟩ := hb_
        refine WL.val1 (R_move (v := .int .i64 (((i : Nat) : Int))) b2_) ?_
        refine WL.nil ?_
        exact ⟨rfl, _, _, rfl, (Hp.le_refl _), rfl, hS136⟩
      · intro r_ w141 h142 hl143 hS140 hb_ hp_
        obtain ⟨b0_, b1_, b2_, _⟩ := hb_
        obtain ⟨p0_, p1_, _⟩ := hp_
        have p0_ : r_ 13 = .slice (l_a) (l).length (l_c) := p0_
        have p1_ : r_ 14 = .int .i64 (((i : Nat) : Int)) := p1_
        refine WL.val1 (R_indexAddrE (i := ((i : Nat) : Int)) (m := i) ha26 p0_ p1_ Tryz.underlying22 (Tryz.sizeOf42 _) (by first | rfl | (omega)) (by omega)) ?_
        refine WL.nil ?_
        exact ⟨rfl, _, _, rfl, (Hp.le_refl _), rfl, hS140⟩
      · intro r_ w145 h146 hl147 hS144 hb_ hp_
        obtain ⟨b0_, b1_, b2_, _⟩ := hb_
        obtain ⟨p0_, _⟩ := hp_
        have p0_ : r_ 15 = .pointer (some ⟨b24, (o25 + i * RRec.n), none⟩) := p0_
        refine WL.val1 (R_fieldAddr (b := b24) (off := (o25 + i * RRec.n)) (m := 0) p0_ (fun _ => by kernel_rfl)) ?_
        refine WL.nil ?_
        exact ⟨rfl, _, _, rfl, (Hp.le_refl _), rfl, hS144⟩
      · intro r_ w149 h150 hl151 hS148 hb_ hp_
        obtain ⟨b0_, b1_, b2_, _⟩ := hb_
        obtain ⟨p0_, _⟩ := hp_
        have p0_ : r_ 16 = .pointer (some ⟨b24, (o25 + i * RRec.n), none⟩) := p0_
        refine WL.val1 (R_loadC (v := .string (B (z_l_i.name))) hS148 p0_ ((hat28.mono hl151).sub 0 1 (cs' := [.string (B (z_l_i.name))]) rfl) Tryz.isAgg9 rfl) ?_
        refine WL.nil ?_
        exact ⟨rfl, _, _, rfl, (Hp.le_refl _), rfl, hS148⟩
      · intro r_ w153 h154 hl155 hS152 hb_ hp_
        obtain ⟨b0_, b1_, b2_, _⟩ := hb_
        refine WL.val1 (R_move (v := .slice (l_a) (l).length (l_c)) b0_) ?_
        refine WL.nil ?_
        exact ⟨rfl, _, _, rfl, (Hp.le_refl _), rfl, hS152⟩
      · intro r_ w157 h158 hl159 hS156 hb_ hp_
        obtain ⟨b0_, b1_, b2_, _⟩ := hb_
        refine WL.val1 (R_move (v := .int .i64 (((i : Nat) : Int))) b2_) ?_
        refine WL.nil ?_
        exact ⟨rfl, _, _, rfl, (Hp.le_refl _), rfl, hS156⟩
      · intro r_ w161 h162 hl163 hS160 hb_ hp_
        obtain ⟨b0_, b1_, b2_, _⟩ := hb_
        obtain ⟨p0_, p1_, _⟩ := hp_
        have p0_ : r_ 18 = .slice (l_a) (l).length (l_c) := p0_
        have p1_ : r_ 19 = .int .i64 (((i : Nat) : Int)) := p1_
        refine WL.val1 (R_indexAddrE (i := ((i : Nat) : Int)) (m := i) ha26 p0_ p1_ Tryz.underlying22 (Tryz.sizeOf42 _) (by first | rfl | (omega)) (by omega)) ?_
        refine WL.nil ?_
        exact ⟨rfl, _, _, rfl, (Hp.le_refl _), rfl, hS160⟩
      · intro r_ w165 h166 hl167 hS164 hb_ hp_
        obtain ⟨b0_, b1_, b2_, _⟩ := hb_
        obtain ⟨p0_, _⟩ := hp_
        have p0_ : r_ 20 = .pointer (some ⟨b24, (o25 + i * RRec.n), none⟩) := p0_
        refine WL.val1 (R_fieldAddr (b := b24) (off := (o25 + i * RRec.n)) (m := 1) p0_ (fun _ => by kernel_rfl)) ?_
        refine WL.nil ?_
        exact ⟨rfl, _, _, rfl, (Hp.le_refl _), rfl, hS164⟩
      · intro r_ w169 h170 hl171 hS168 hb_ hp_
        obtain ⟨b0_, b1_, b2_, _⟩ := hb_
        obtain ⟨p0_, _⟩ := hp_
        have p0_ : r_ 21 = .pointer (some ⟨b24, (o25 + i * RRec.n) + 1, none⟩) := p0_
        refine WL.val1 (R_loadC (v := .slice (a30) (z_l_i.seens).length (c31)) hS168 p0_ ((hat28.mono hl171).sub 1 1 (cs' := [.slice (a30) (z_l_i.seens).length (c31)]) rfl) Tryz.isAgg39 rfl) ?_
        refine WL.nil ?_
        exact ⟨rfl, _, _, rfl, (Hp.le_refl _), rfl, hS168⟩
      · intro r_ w173 h174 hl175 hS172 hb_ hp_
        obtain ⟨b0_, b1_, b2_, _⟩ := hb_
        obtain ⟨p0_, _⟩ := hp_
        have p0_ : r_ 22 = .slice (a30) (z_l_i.seens).length (c31) := p0_
        refine S_callF (vs := [.slice (a30) (z_l_i.seens).length (c31)]) hS172 Tryz.call18 (hmap1 p0_) (law_Seens (z_l_i.seens) (a30) (c31) (by first | assumption | omega)) (hs34.mono hl175) ?_
        intro h178 v180 w177 hl179 hp181 hS176
        obtain ⟨a182, c183, rfl, hf184⟩ := hp181
        refine WL.nil ?_
        exact ⟨rfl, _, _, rfl, hl179, ⟨a182, c183, rfl, hf184⟩, hS176⟩
      · intro r_ w189 h190 hl191 hS188 hb_ hp_
        obtain ⟨b0_, b1_, b2_, _⟩ := hb_
        refine WL.val1 (R_move (v := .slice (l_a) (l).length (l_c)) b0_) ?_
        refine WL.nil ?_
        exact ⟨rfl, _, _, rfl, (Hp.le_refl _), rfl, hS188⟩
      · intro r_ w193 h194 hl195 hS192 hb_ hp_
        obtain ⟨b0_, b1_, b2_, _⟩ := hb_
        refine WL.val1 (R_move (v := .int .i64 (((i : Nat) : Int))) b2_) ?_
        refine WL.nil ?_
        exact ⟨rfl, _, _, rfl, (Hp.le_refl _), rfl, hS192⟩
      · intro r_ w197 h198 hl199 hS196 hb_ hp_
        obtain ⟨b0_, b1_, b2_, _⟩ := hb_
        obtain ⟨p0_, p1_, _⟩ := hp_
        have p0_ : r_ 24 = .slice (l_a) (l).length (l_c) := p0_
        have p1_ : r_ 25 = .int .i64 (((i : Nat) : Int)) := p1_
        refine WL.val1 (R_indexAddrE (i := ((i : Nat) : Int)) (m := i) ha26 p0_ p1_ Tryz.underlying22 (Tryz.sizeOf42 _) (by first | rfl | (omega)) (by omega)) ?_
        refine WL.nil ?_
        exact ⟨rfl, _, _, rfl, (Hp.le_refl _), rfl, hS196⟩
      · intro r_ w201 h202 hl203 hS200 hb_ hp_
        obtain ⟨b0_, b1_, b2_, _⟩ := hb_
        obtain ⟨p0_, _⟩ := hp_
        have p0_ : r_ 26 = .pointer (some ⟨b24, (o25 + i * RRec.n), none⟩) := p0_
        refine WL.val1 (R_fieldAddr (b := b24) (off := (o25 + i * RRec.n)) (m := 2) p0_ (fun _ => by kernel_rfl)) ?_
        refine WL.nil ?_
        exact ⟨rfl, _, _, rfl, (Hp.le_refl _), rfl, hS200⟩
      · intro r_ w205 h206 hl207 hS204 hb_ hp_
        obtain ⟨b0_, b1_, b2_, _⟩ := hb_
        obtain ⟨p0_, _⟩ := hp_
        have p0_ : r_ 27 = .pointer (some ⟨b24, (o25 + i * RRec.n) + 2, none⟩) := p0_
        refine WL.val1 (R_loadC (v := .slice (a32) (z_l_i.files).length (c33)) hS204 p0_ ((hat28.mono hl207).sub 2 1 (cs' := [.slice (a32) (z_l_i.files).length (c33)]) rfl) Tryz.isAgg40 rfl) ?_
        refine WL.nil ?_
        exact ⟨rfl, _, _, rfl, (Hp.le_refl _), rfl, hS204⟩
      · intro r_ w209 h210 hl211 hS208 hb_ hp_
        obtain ⟨b0_, b1_, b2_, _⟩ := hb_
        obtain ⟨p0_, p1_, p2_, _⟩ := hp_
        have p0_ : r_ 17 = .string (B (z_l_i.name)) := p0_
        obtain ⟨a212, c213, p1_, hs214⟩ := p1_
        have p2_ : r_ 28 = .slice (a32) (z_l_i.files).length (c33) := p2_
        refine WL.val1 (R_build (vs := [(0, .string (B (z_l_i.name))), (1, .slice (a212) (z_l_i.seens).length (c213)), (2, .slice (a32) (z_l_i.files).length (c33))]) (v := .agg #[.string (B (z_l_i.name)), .slice (a212) (z_l_i.seens).length (c213), .slice (a32) (z_l_i.files).length (c33)]) (pmap3 p0_ p1_ p2_) (fun _ => by kernel_rfl)) ?_
        refine WL.nil ?_
        exact ⟨rfl, _, _, rfl, (Hp.le_refl _), ⟨a212, c213, rfl, hs214⟩, hS208⟩
      · intro r_ w219 h220 hl221 hS218 hb_ hp_
        obtain ⟨b0_, b1_, b2_, _⟩ := hb_
        obtain ⟨p0_, _⟩ := hp_
        obtain ⟨a222, c223, p0_, hs224⟩ := p0_
        refine S_buildSliceC (R := RRec2) (m := 1) (vs := [(0, .agg #[.string (B (z_l_i.name)), .slice (a222) (z_l_i.seens).length (c223), .slice (a32) (z_l_i.files).length (c33)])]) (cells := [.string (B (z_l_i.name)), .slice (a222) (z_l_i.seens).length (c223), .slice (a32) (z_l_i.files).length (c33)]) (xs := [{ name := z_l_i.name, seens := z_l_i.seens, files := z_l_i.files : Rec }]) hS218 Tryz.underlying28 Tryz.sizeOf52 Tryz.zeroValue52 (by decide) (by decide) (pmap1 (v := .agg #[.string (B (z_l_i.name)), .slice (a222) (z_l_i.seens).length (c223), .slice (a32) (z_l_i.files).length (c33)]) p0_) (by kernel_rfl) (by exact (⟨[.string (B (z_l_i.name)), .slice (a222) (z_l_i.seens).length (c223), .slice (a32) (z_l_i.files).length (c33)], _, rfl, ⟨a222, c223, a32, c33, rfl, hs224, (hs35.mono hl221)⟩, rfl⟩ : Flat RRec2 _ [{ name := z_l_i.name, seens := z_l_i.seens, files := z_l_i.files : Rec }] _)) rfl ?_
        intro h227 b229 w226 hl228 hs230 hS225
        refine WL.nil ?_
        exact ⟨rfl, _, _, rfl, hl228, ⟨b229, rfl, hs230⟩, hS225⟩
      · intro r_ w234 h235 hl236 hS233 hb_ hf_
        obtain ⟨b0_, b1_, b2_, _⟩ := hb_
        obtain ⟨q0_, q1_, q2_, q3_, q4_, q5_, q6_, q7_, q8_, q9_, q10_, q11_, q12_, q13_, q14_, q15_, q16_, q17_, q18_, _⟩ := hf_
        obtain ⟨a237, c238, q11_, hs239⟩ := q11_
        obtain ⟨a240, c241, q17_, hs242⟩ := q17_
        obtain ⟨b243, q18_, hs244⟩ := q18_
        refine WL.frame (((0, .slice (l_a) (l).length (l_c))) :: ((3, .slice (acc_a) (acc).length (acc_c))) :: ((4, .int .i64 (((i : Nat) : Int)))) :: ((12, .slice (acc_a) (acc).length (acc_c))) :: ((13, .slice (l_a) (l).length (l_c))) :: ((14, .int .i64 (((i : Nat) : Int)))) :: ((15, .pointer (some ⟨b24, (o25 + i * RRec.n), none⟩))) :: ((16, .pointer (some ⟨b24, (o25 + i * RRec.n), none⟩))) :: ((17, .string (B (z_l_i.name)))) :: ((18, .slice (l_a) (l).length (l_c))) :: ((19, .int .i64 (((i : Nat) : Int)))) :: ((20, .pointer (some ⟨b24, (o25 + i * RRec.n), none⟩))) :: ((21, .pointer (some ⟨b24, (o25 + i * RRec.n) + 1, none⟩))) :: ((22, .slice (a30) (z_l_i.seens).length (c31))) :: ((23, .slice (a237) (z_l_i.seens).length (c238))) :: ((24, .slice (l_a) (l).length (l_c))) :: ((25, .int .i64 (((i : Nat) : Int)))) :: ((26, .pointer (some ⟨b24, (o25 + i * RRec.n), none⟩))) :: ((27, .pointer (some ⟨b24, (o25 + i * RRec.n) + 2, none⟩))) :: ((28, .slice (a32) (z_l_i.files).length (c33))) :: ((29, .agg #[.string (B (z_l_i.name)), .slice (a240) (z_l_i.seens).length (c241), .slice (a32) (z_l_i.files).length (c33)])) :: ((30, .slice (some ⟨b243, 0, none⟩) 1 (1))) :: []) ⟨b0_, b1_, b2_, q0_, q1_, q2_, q3_, q4_, q5_, q6_, q7_, q8_, q9_, q10_, q11_, q12_, q13_, q14_, q15_, q16_, q17_, q18_, trivial⟩ (fun r_ => ?_)
        refine S_append (info := Tryz.t52) (R := RRec2) (xs := acc) (ys := [{ name := z_l_i.name, seens := z_l_i.seens, files := z_l_i.files : Rec }]) (a := acc_a) (c := acc_c) 0 Tryz.underlying28 (by kernel_rfl) rfl rfl rfl (by decide) 64 rfl hS233 rfl hl236 hs244 rfl rfl (by (try simp only [List.length_append, List.length_cons, List.length_nil]); omega) (by (try simp only [List.length_append, List.length_cons, List.length_nil]); omega) ?_
        intro a245 c246 w247 hS248
        refine WL.val1 (R_assign (v := .slice (a245) ((acc ++ [{ name := z_l_i.name, seens := z_l_i.seens, files := z_l_i.files : Rec }])).length (c246)) rfl) ?_
        refine WL.nil ?_
        refine block_normal ?_
        refine then_normal ?_
        refine WC.region ?_
        refine WL.val1 (R_move (v := .int .i64 (((i : Nat) : Int))) rfl) ?_
        refine WL.val1 (R_add_i (a := ((i : Nat) : Int)) (b := 1) rfl rfl (by omega)) ?_
        refine WL.val1 (R_assign (v := .int .i64 ((((i : Nat) : Int) + 1))) rfl) ?_
        refine WL.nil ?_
        refine then_normal ?_
        exact ⟨(i + 1, (acc ++ [{ name := z_l_i.name, seens := z_l_i.seens, files := z_l_i.files : Rec }]), a245, c246), ⟨rfl, (by first | rfl | (apply congrArg (Value.int .i64); omega) | simp), (by first | rfl | (apply congrArg (Value.int .i64); omega) | simp), trivial⟩, ⟨h235, (hl6.trans hl236), hS248, (by (try dsimp only); first | assumption | omega | simp), (by (try dsimp only); rw [f2, take_succ' hz_l_i])⟩, (by first | (simp only []; omega) | (simp; omega))⟩
    · skip
      refine WC.exit ?_
      refine then_exit ?_
      refine then_exit ?_
      refine block_exit ?_
      refine then_normal ?_
      refine WC.seq ?_
      refine WC.region ?_
      refine WL.val1 (R_move (v := .slice (acc_a) (acc).length (acc_c)) rfl) ?_
      refine WL.val1 (R_assign (v := .slice (acc_a) (acc).length (acc_c)) rfl) ?_
      refine WL.nil ?_
      refine then_normal ?_
      refine WC.ret ?_
      refine top_ret (.slice (acc_a) (acc).length (acc_c)) (gives1 rfl rfl) ?_
      obtain ⟨h249, hl250, hs251, hS252⟩ := hS3.growCommit (i := 0) rfl (Hp.le_refl _)
      have e_ : l = acc := by rw [f2, List.take_of_length_le (by omega)]
      exact ⟨h249, (hl6.trans hl250), ⟨acc_a, acc_c, (by rw [e_]), (by first | exact hs251 | (rw [e_]; exact hs251))⟩, hS252.pop⟩
set_option maxHeartbeats 400000 in
theorem ref20_part (l : List Str) (l_a : Option Addr) (l_c : Nat) (i : Nat)  : PureC GG Tryz.prog 37 (fun h => Sl Rstr h l l_a l_c) [.slice (l_a) (l).length (l_c), .int .i64 (((i : Nat) : Int))] (.string (B ((partS l i)))) := by
  intro Γ h L w hpre hS
  have sl_l := hpre
  refine Ret.body Tryz.func37 rfl Tryz.ntmps37 (Nat.le_of_ble_eq_true rfl) ?_
  refine WC.seq ?_
  refine WC.region ?_
  refine WL.val1 (R_assign (v := .string (B (([] : Str)))) rfl) ?_
  refine WL.nil ?_
  refine then_normal ?_
  refine WC.seq ?_
  refine WC.seq ?_
  refine WC.region ?_
  refine WL.val1 (R_move (v := .int .i64 (((i : Nat) : Int))) rfl) ?_
  refine WL.val1 (R_move (v := .slice (l_a) (l).length (l_c)) rfl) ?_
  refine WL.val1 (R_len_slice (n := (l).length) rfl Tryz.underlying58) ?_
  refine WL.val1 (R_geq (a := ((i : Nat) : Int)) (b := (((l).length : Nat) : Int)) rfl rfl) ?_
  refine WL.nil ?_
  refine then_normal ?_
  refine WC.condP ((((l).length : Nat) : Int) ≤ ((i : Nat) : Int)) rfl (fun c0 => ?_) (fun c0 => ?_)
  · skip
    refine WC.seq ?_
    refine WC.region ?_
    refine WL.val1 (R_assign (v := .string (B (([] : Str)))) rfl) ?_
    refine WL.nil ?_
    refine then_normal ?_
    refine WC.ret ?_
    refine then_ret ?_
    refine top_ret (.string (B (([] : Str)))) (gives1 rfl rfl) ?_
    exact ⟨(by rw [partS_out (by omega)]), hS⟩
  · skip
    refine WC.skip ?_
    refine then_normal ?_
    refine WC.seq ?_
    refine WC.region ?_
    refine WL.val1 (R_move (v := .slice (l_a) (l).length (l_c)) rfl) ?_
    refine WL.val1 (R_move (v := .int .i64 (((i : Nat) : Int))) rfl) ?_
    obtain ⟨z_l_i, hz_l_i⟩ : ∃ z, (l)[i]? = some z := ⟨_, List.getElem?_eq_getElem (by omega)⟩
    obtain ⟨b1, o2, cs6, ha3, hr4, hat5⟩ := sl_l.2 i z_l_i hz_l_i
    subst hr4
    refine WL.val1 (R_indexAddrE (i := ((i : Nat) : Int)) (m := i) ha3 rfl rfl Tryz.underlying58 (Tryz.sizeOf9 _) (by first | rfl | (omega)) (by omega)) ?_
    refine WL.val1 (R_loadC (v := .string (B (z_l_i))) hS rfl hat5 Tryz.isAgg9 rfl) ?_
    refine WL.val1 (R_assign (v := .string (B (z_l_i))) rfl) ?_
    refine WL.nil ?_
    refine then_normal ?_
    refine WC.ret ?_
    refine top_ret (.string (B (z_l_i))) (gives1 rfl rfl) ?_
    exact ⟨(by rw [partS_at hz_l_i]), hS⟩
set_option maxHeartbeats 400000 in
theorem ref20_one (s : Str) (hs : s.length ≤ 1000) : FnC GG Tryz.prog 22 (fun _ => True) [.string (B (s))] (fun h v => ∃ (a : Option Addr) (c : Nat) (a2 : Option Addr) (c2 : Nat), v = .agg #[.string (B ((oneS s).name)), .slice (a) ((oneS s).seens).length (c), .slice (a2) ((oneS s).files).length (c2)] ∧ (Sl RSeen2 h (oneS s).seens a c) ∧ (Sl RFile h (oneS s).files a2 c2)) := by
  intro Γ h L w hpre hS
  have hb := allS_bd s
  have hp1 := partS_len hb.1 1
  have hp2 := partS_len hb.1 2
  have hb1 := allS_bd (partS (allS s).1 1)
  refine Ret.body Tryz.func22 rfl Tryz.ntmps22 (Nat.le_of_ble_eq_true rfl) ?_
  refine WC.seq ?_
  refine WC.region ?_
  refine S_alloc hS Tryz.zeroValue52 ?_
  intro w2 hS1
  refine WL.nil ?_
  refine then_normal ?_
  refine WC.seq ?_
  refine WC.region ?_
  refine WL.val1 (R_move (v := .string (B (s))) rfl) ?_
  refine S_callF (vs := [.string (B (s))]) hS1 Tryz.call21 rfl (ref03_All (s) (by first | assumption | omega)) trivial ?_
  intro h5 v7 w4 hl6 hp8 hS3
  obtain ⟨a9, c10, rfl, hf11⟩ := hp8
  refine WL.val1 (R_move (v := .tuple #[.slice (a9) ((allS s).1).length (c10), .int .i64 ((allS s).2)]) rfl) ?_
  refine WL.val1 (R_extract (vs := [.slice (a9) ((allS s).1).length (c10), .int .i64 ((allS s).2)].toArray) (v := .slice (a9) ((allS s).1).length (c10)) rfl rfl) ?_
  refine WL.val1 (R_extract (vs := [.slice (a9) ((allS s).1).length (c10), .int .i64 ((allS s).2)].toArray) (v := .int .i64 ((allS s).2)) rfl rfl) ?_
  refine WL.val1 (R_assign (v := .slice (a9) ((allS s).1).length (c10)) rfl) ?_
  refine WL.val1 (R_assign (v := .int .i64 ((allS s).2)) rfl) ?_
  refine WL.nil ?_
  refine then_normal ?_
  refine WC.seq ?_
  refine WC.region ?_
  refine WL.val1 (R_move (v := .slice (a9) ((allS s).1).length (c10)) rfl) ?_
  refine S_callP (vs := [.slice (a9) ((allS s).1).length (c10), .int .i64 (0)]) hS3 Tryz.call37 rfl (ref20_part ((allS s).1) (a9) (c10) (0)) hf11 ?_
  intro w13 hS12
  refine WL.val1 (R_build (vs := [(0, .string (B ((partS ((allS s).1) 0))))]) (v := .agg #[.string (B ((partS ((allS s).1) 0))), .slice none 0 0, .slice none 0 0]) rfl (fun _ => by kernel_rfl)) ?_
  refine S_alloc hS12 Tryz.zeroValue52 ?_
  intro w15 hS14
  refine S_store (i := 0) (b := w13.heap.size) (l := [.string (B (([] : Str))), .slice none 0 0, .slice none 0 0]) (l' := [.string (B ((partS ((allS s).1) 0))), .slice none 0 0, .slice none 0 0]) (vs := [.string (B ((partS ((allS s).1) 0))), .slice none 0 0, .slice none 0 0]) (v := .agg #[.string (B ((partS ((allS s).1) 0))), .slice none 0 0, .slice none 0 0]) hS14 rfl rfl rfl Tryz.sizeOf52 rfl rfl rfl (Nat.le_of_ble_eq_true rfl) rfl rfl ?_
  intro w17 hS16
  refine WL.nil ?_
  refine then_normal ?_
  refine WC.seq ?_
  refine WC.region ?_
  refine WL.val1 (R_move (v := .slice (a9) ((allS s).1).length (c10)) rfl) ?_
  refine S_callP (vs := [.slice (a9) ((allS s).1).length (c10), .int .i64 (1)]) hS16 Tryz.call37 rfl (ref20_part ((allS s).1) (a9) (c10) (1)) hf11 ?_
  intro w19 hS18
  refine S_callF (vs := [.string (B ((partS ((allS s).1) 1)))]) hS18 Tryz.call21 rfl (ref03_All ((partS ((allS s).1) 1)) (by first | assumption | omega)) trivial ?_
  intro h22 v24 w21 hl23 hp25 hS20
  obtain ⟨a26, c27, rfl, hf28⟩ := hp25
  refine WL.val1 (R_move (v := .tuple #[.slice (a26) ((allS ((partS ((allS s).1) 1))).1).length (c27), .int .i64 ((allS ((partS ((allS s).1) 1))).2)]) rfl) ?_
  refine WL.val1 (R_extract (vs := [.slice (a26) ((allS ((partS ((allS s).1) 1))).1).length (c27), .int .i64 ((allS ((partS ((allS s).1) 1))).2)].toArray) (v := .slice (a26) ((allS ((partS ((allS s).1) 1))).1).length (c27)) rfl rfl) ?_
  refine WL.val1 (R_extract (vs := [.slice (a26) ((allS ((partS ((allS s).1) 1))).1).length (c27), .int .i64 ((allS ((partS ((allS s).1) 1))).2)].toArray) (v := .int .i64 ((allS ((partS ((allS s).1) 1))).2)) rfl rfl) ?_
  refine WL.val1 (R_assign (v := .slice (a26) ((allS ((partS ((allS s).1) 1))).1).length (c27)) rfl) ?_
  refine WL.val1 (R_assign (v := .int .i64 ((allS ((partS ((allS s).1) 1))).2)) rfl) ?_
  refine WL.nil ?_
  refine then_normal ?_
  refine WC.seq ?_
  refine WC.seq ?_
  refine WC.region ?_
  refine WL.val1 (R_assign (v := .int .i64 (0)) rfl) ?_
  refine WL.nil ?_
  refine then_normal ?_
  refine WC.block ?_
  have hS29 := hS20.growNil 72 RSeen2 h22
  refine WC.loopL (σ := Nat × (List Seen) × (Option Addr) × Nat)
    (fun (q_ : Nat × (List Seen) × (Option Addr) × Nat) => (fun (i : Nat) (acc : List Seen) (acc_a : Option Addr) (acc_c : Nat) => [(2, .pointer (some ⟨w.heap.size, 0, none⟩)), (3, .slice (a9) ((allS s).1).length (c10)), (5, .pointer (some ⟨w13.heap.size, 0, none⟩)), (6, .slice (a26) ((allS ((partS ((allS s).1) 1))).1).length (c27)), (8, .int .i64 (((i : Nat) : Int)))]) (q_.1) (q_.2.1) (q_.2.2.1) (q_.2.2.2))
    (fun (q_ : Nat × (List Seen) × (Option Addr) × Nat) (w_ : World) => (fun (i : Nat) (acc : List Seen) (acc_a : Option Addr) (acc_c : Nat) => ∃ h32 : Hp, h22.le h32 ∧ St Γ h32 (grow 72 RSeen2 h32 (acc) (acc_a) (acc_c) :: row (w13.heap.size) [.string (B ((partS ((allS s).1) 0))), .slice (acc_a) (acc).length (acc_c), .slice none 0 0] 52 :: row (w.heap.size) [.string (B (([] : Str))), .slice none 0 0, .slice none 0 0] 52 :: L) w_ ∧ (i ≤ (allS (partS (allS s).1 1)).1.length + 1) ∧ (acc ++ seensOf ((allS (partS (allS s).1 1)).1.drop i) = seensOf (allS (partS (allS s).1 1)).1) ∧ (acc.length ≤ i)) (q_.1) (q_.2.1) (q_.2.2.1) (q_.2.2.2))
    (fun (q_ : Nat × (List Seen) × (Option Addr) × Nat) => (fun (i : Nat) (acc : List Seen) (acc_a : Option Addr) (acc_c : Nat) => (allS (partS (allS s).1 1)).1.length + 1 - i) (q_.1) (q_.2.1) (q_.2.2.1) (q_.2.2.2)) (0, ([] : List Seen), none, 0) ?_ ?_ ?_
  · exact ⟨rfl, rfl, rfl, rfl, (by first | rfl | (apply congrArg (Value.int .i64); omega) | simp), trivial⟩
  · exact ⟨h22, Hp.le_refl _, hS29, (by first | assumption | omega | simp), (by rfl), (by first | assumption | omega | simp)⟩
  · rintro ⟨i, acc, acc_a, acc_c⟩ r34 w31 ⟨h32, hl33, hS30, f1, f2, f3⟩
    try dsimp only at f1 f2 f3
    refine WC.seq ?_
    refine WC.seq ?_
    refine WC.region ?_
    refine WL.val1 (R_move (v := .int .i64 (((i : Nat) : Int))) rfl) ?_
    refine WL.val1 (R_move (v := .slice (a26) ((allS ((partS ((allS s).1) 1))).1).length (c27)) rfl) ?_
    refine WL.val1 (R_len_slice (n := ((allS ((partS ((allS s).1) 1))).1).length) rfl Tryz.underlying58) ?_
    refine WL.val1 (R_lss (a := ((i : Nat) : Int)) (b := ((((allS ((partS ((allS s).1) 1))).1).length : Nat) : Int)) rfl rfl) ?_
    refine WL.nil ?_
    refine then_normal ?_
    refine WC.condP (((i : Nat) : Int) < ((((allS ((partS ((allS s).1) 1))).1).length : Nat) : Int)) rfl (fun c0 => ?_) (fun c0 => ?_)
    · skip
      refine WC.skip ?_
      refine then_normal ?_
      refine WC.seq ?_
      refine WC.block ?_
      refine WC.seq ?_
      refine WC.region ?_
      refine WL.val1 (R_move (v := .slice (a26) ((allS ((partS ((allS s).1) 1))).1).length (c27)) rfl) ?_
      refine WL.val1 (R_move (v := .int .i64 (((i : Nat) : Int))) rfl) ?_
      refine WL.val1 (R_add_i (a := ((i : Nat) : Int)) (b := 1) rfl rfl (by omega)) ?_
      refine S_callP (vs := [.slice (a26) ((allS ((partS ((allS s).1) 1))).1).length (c27), .int .i64 ((((i : Nat) : Int) + 1))]) hS30 Tryz.call37 rfl (ref20_part ((allS ((partS ((allS s).1) 1))).1) (a26) (c27) ((i + 1))) (hf28.mono hl33) ?_
      intro w36 hS35
      refine WL.val1 (R_assign (v := .string (B ((partS ((allS ((partS ((allS s).1) 1))).1) ((i + 1)))))) rfl) ?_
      refine WL.nil ?_
      refine then_normal ?_
      refine WC.seq ?_
      refine WC.region ?_
      refine WL.val1 (R_move (v := .string (B ((partS ((allS ((partS ((allS s).1) 1))).1) ((i + 1)))))) rfl) ?_
      refine WL.val1 (R_seql (a := (partS ((allS ((partS ((allS s).1) 1))).1) ((i + 1)))) (b := ([45] : Str)) rfl rfl) ?_
      refine WL.val1 (R_move (v := .bool (decide ((partS ((allS ((partS ((allS s).1) 1))).1) ((i + 1))) = ([45] : Str)))) rfl) ?_
      refine WL.gpure (gd := (!(decide ((partS ((allS ((partS ((allS s).1) 1))).1) ((i + 1))) = ([45] : Str))))) (yl_f (d := 38) rfl rfl) (fun hg => R_move (v := .string (B ((partS ((allS ((partS ((allS s).1) 1))).1) ((i + 1)))))) rfl) ?_
      refine WL.gpure (gd := (!(decide ((partS ((allS ((partS ((allS s).1) 1))).1) ((i + 1))) = ([45] : Str))))) (yl_f (d := 38) rfl rfl) (fun hg => R_seql (a := (partS ((allS ((partS ((allS s).1) 1))).1) ((i + 1)))) (b := ([] : Str)) (gvT hg rfl) rfl) ?_
      refine WL.val1 (R_or (cb := decide ((partS ((allS ((partS ((allS s).1) 1))).1) ((i + 1))) = ([45] : Str))) (yb := decide ((partS ((allS ((partS ((allS s).1) 1))).1) ((i + 1))) = ([] : Str))) rfl rfl rfl) ?_
      refine WL.nil ?_
      refine then_normal ?_
      refine WC.condI (((partS ((allS ((partS ((allS s).1) 1))).1) ((i + 1))) = ([45] : Str) ∨ (partS ((allS ((partS ((allS s).1) 1))).1) ((i + 1))) = ([] : Str))) (b := (decide ((partS ((allS ((partS ((allS s).1) 1))).1) ((i + 1))) = ([45] : Str)) || decide ((partS ((allS ((partS ((allS s).1) 1))).1) ((i + 1))) = ([] : Str)))) rfl (b_or b_dec b_dec) (fun c1 => ?_) (fun c1 => ?_)
      · skip
        obtain ⟨z_allS_partS_allS_s_1_1_1_i, hz_allS_partS_allS_s_1_1_1_i⟩ : ∃ z, ((allS ((partS ((allS s).1) 1))).1)[i]? = some z := ⟨_, List.getElem?_eq_getElem (by omega)⟩
        obtain ⟨b57, o58, cs62, ha59, hr60, hat61⟩ := (hf28.mono hl33).2 i z_allS_partS_allS_s_1_1_1_i hz_allS_partS_allS_s_1_1_1_i
        subst hr60
        refine WC.draw 8 [(2, .pointer (some ⟨w.heap.size, 0, none⟩)), (3, .slice (a9) ((allS s).1).length (c10)), (5, .pointer (some ⟨w13.heap.size, 0, none⟩)), (6, .slice (a26) ((allS ((partS ((allS s).1) 1))).1).length (c27)), (8, .int .i64 (((i : Nat) : Int)))] [fun _ v => v = .pointer (some ⟨w13.heap.size, 1, none⟩), fun _ v => v = .slice (acc_a) (acc).length (acc_c), fun _ v => v = .slice (a26) ((allS ((partS ((allS s).1) 1))).1).length (c27), fun _ v => v = .int .i64 (((i : Nat) : Int)), fun _ v => v = .pointer (some ⟨b57, (o58 + i * Rstr.n), none⟩), fun _ v => v = .string (B (z_allS_partS_allS_s_1_1_1_i)), fun _ v => v = .agg #[.string (B (z_allS_partS_allS_s_1_1_1_i)), .bool (false), .string (B (([] : Str)))], fun h v => ∃ (b0_ : Nat), v = .slice (some ⟨b0_, 0, none⟩) 1 (1) ∧ Sl RSeen2 h ([{ name := z_allS_partS_allS_s_1_1_1_i, there := false, text := ([] : Str) : Seen }]) (some ⟨b0_, 0, none⟩) (1)] hS35 (by kernel_rfl) (by kernel_rfl) (MonoFs.pure (MonoFs.pure (MonoFs.pure (MonoFs.pure (MonoFs.pure (MonoFs.pure (MonoFs.pure (MonoFs.cons (fun _ _ _ hl ⟨x0, e, y0⟩ => ⟨x0, e, y0.mono hl⟩) MonoFs.nil)))))))) ⟨rfl, rfl, rfl, rfl, rfl, trivial⟩ ⟨?_, ?_, ?_, ?_, ?_, ?_, ?_, ?_, trivial⟩ ?_
        · intro r_ w85 h86 hl87 hS84 hb_ hp_
          obtain ⟨b0_, b1_, b2_, b3_, b4_, _⟩ := hb_
          refine WL.val1 (R_fieldAddr (b := w13.heap.size) (off := 0) (m := 1) b2_ (fun _ => by kernel_rfl)) ?_
          refine WL.nil ?_
          exact ⟨rfl, _, _, rfl, (Hp.le_refl _), rfl, hS84⟩
        · intro r_ w89 h90 hl91 hS88 hb_ hp_
          obtain ⟨b0_, b1_, b2_, b3_, b4_, _⟩ := hb_
          obtain ⟨p0_, _⟩ := hp_
          have p0_ : r_ 42 = .pointer (some ⟨w13.heap.size, 1, none⟩) := p0_
          refine WL.val1 (R_load (v := .slice (acc_a) (acc).length (acc_c)) p0_ (hS88.has (i := 1) rfl) (Tryz.isAgg50 _) rfl) ?_
          refine WL.nil ?_
          exact ⟨rfl, _, _, rfl, (Hp.le_refl _), rfl, hS88⟩
        · intro r_ w93 h94 hl95 hS92 hb_ hp_
          obtain ⟨b0_, b1_, b2_, b3_, b4_, _⟩ := hb_
          refine WL.val1 (R_move (v := .slice (a26) ((allS ((partS ((allS s).1) 1))).1).length (c27)) b3_) ?_
          refine WL.nil ?_
          exact ⟨rfl, _, _, rfl, (Hp.le_refl _), rfl, hS92⟩
        · intro r_ w97 h98 hl99 hS96 hb_ hp_
          obtain ⟨b0_, b1_, b2_, b3_, b4_, _⟩ := hb_
          refine WL.val1 (R_move (v := .int .i64 (((i : Nat) : Int))) b4_) ?_
          refine WL.nil ?_
          exact ⟨rfl, _, _, rfl, (Hp.le_refl _), rfl, hS96⟩
        · intro r_ w101 h102 hl103 hS100 hb_ hp_
          obtain ⟨b0_, b1_, b2_, b3_, b4_, _⟩ := hb_
          obtain ⟨p0_, p1_, _⟩ := hp_
          have p0_ : r_ 44 = .slice (a26) ((allS ((partS ((allS s).1) 1))).1).length (c27) := p0_
          have p1_ : r_ 45 = .int .i64 (((i : Nat) : Int)) := p1_
          refine WL.val1 (R_indexAddrE (i := ((i : Nat) : Int)) (m := i) ha59 p0_ p1_ Tryz.underlying58 (Tryz.sizeOf9 _) (by first | rfl | (omega)) (by omega)) ?_
          refine WL.nil ?_
          exact ⟨rfl, _, _, rfl, (Hp.le_refl _), rfl, hS100⟩
        · intro r_ w105 h106 hl107 hS104 hb_ hp_
          obtain ⟨b0_, b1_, b2_, b3_, b4_, _⟩ := hb_
          obtain ⟨p0_, _⟩ := hp_
          have p0_ : r_ 46 = .pointer (some ⟨b57, (o58 + i * Rstr.n), none⟩) := p0_
          refine WL.val1 (R_loadC (v := .string (B (z_allS_partS_allS_s_1_1_1_i))) hS104 p0_ (hat61.mono hl107) Tryz.isAgg9 rfl) ?_
          refine WL.nil ?_
          exact ⟨rfl, _, _, rfl, (Hp.le_refl _), rfl, hS104⟩
        · intro r_ w109 h110 hl111 hS108 hb_ hp_
          obtain ⟨b0_, b1_, b2_, b3_, b4_, _⟩ := hb_
          obtain ⟨p0_, _⟩ := hp_
          have p0_ : r_ 47 = .string (B (z_allS_partS_allS_s_1_1_1_i)) := p0_
          refine WL.val1 (R_build (vs := [(0, .string (B (z_allS_partS_allS_s_1_1_1_i)))]) (v := .agg #[.string (B (z_allS_partS_allS_s_1_1_1_i)), .bool (false), .string (B (([] : Str)))]) (pmap1 p0_) (fun _ => by kernel_rfl)) ?_
          refine WL.nil ?_
          exact ⟨rfl, _, _, rfl, (Hp.le_refl _), rfl, hS108⟩
        · intro r_ w113 h114 hl115 hS112 hb_ hp_
          obtain ⟨b0_, b1_, b2_, b3_, b4_, _⟩ := hb_
          obtain ⟨p0_, _⟩ := hp_
          have p0_ : r_ 48 = .agg #[.string (B (z_allS_partS_allS_s_1_1_1_i)), .bool (false), .string (B (([] : Str)))] := p0_
          refine S_buildSliceC (R := RSeen2) (m := 1) (vs := [(0, .agg #[.string (B (z_allS_partS_allS_s_1_1_1_i)), .bool (false), .string (B (([] : Str)))])]) (cells := [.string (B (z_allS_partS_allS_s_1_1_1_i)), .bool (false), .string (B (([] : Str)))]) (xs := [{ name := z_allS_partS_allS_s_1_1_1_i, there := false, text := ([] : Str) : Seen }]) hS112 Tryz.underlying50 Tryz.sizeOf72 Tryz.zeroValue72 (by decide) (by decide) (pmap1 (v := .agg #[.string (B (z_allS_partS_allS_s_1_1_1_i)), .bool (false), .string (B (([] : Str)))]) p0_) (by kernel_rfl) (by exact (⟨[.string (B (z_allS_partS_allS_s_1_1_1_i)), .bool (false), .string (B (([] : Str)))], _, rfl, rfl, rfl⟩ : Flat RSeen2 _ [{ name := z_allS_partS_allS_s_1_1_1_i, there := false, text := ([] : Str) : Seen }] _)) rfl ?_
          intro h118 b120 w117 hl119 hs121 hS116
          refine WL.nil ?_
          exact ⟨rfl, _, _, rfl, hl119, ⟨b120, rfl, hs121⟩, hS116⟩
        · intro r_ w125 h126 hl127 hS124 hb_ hf_
          obtain ⟨b0_, b1_, b2_, b3_, b4_, _⟩ := hb_
          obtain ⟨q0_, q1_, q2_, q3_, q4_, q5_, q6_, q7_, _⟩ := hf_
          obtain ⟨b128, q7_, hs129⟩ := q7_
          refine WL.frame [(2, .pointer (some ⟨w.heap.size, 0, none⟩)), (3, .slice (a9) ((allS s).1).length (c10)), (5, .pointer (some ⟨w13.heap.size, 0, none⟩)), (6, .slice (a26) ((allS ((partS ((allS s).1) 1))).1).length (c27)), (8, .int .i64 (((i : Nat) : Int))), (42, .pointer (some ⟨w13.heap.size, 1, none⟩)), (43, .slice (acc_a) (acc).length (acc_c)), (44, .slice (a26) ((allS ((partS ((allS s).1) 1))).1).length (c27)), (45, .int .i64 (((i : Nat) : Int))), (46, .pointer (some ⟨b57, (o58 + i * Rstr.n), none⟩)), (47, .string (B (z_allS_partS_allS_s_1_1_1_i))), (48, .agg #[.string (B (z_allS_partS_allS_s_1_1_1_i)), .bool (false), .string (B (([] : Str)))]), (49, .slice (some ⟨b128, 0, none⟩) 1 (1))] ⟨b0_, b1_, b2_, b3_, b4_, q0_, q1_, q2_, q3_, q4_, q5_, q6_, q7_, trivial⟩ (fun r_ => ?_)
          refine S_append (info := Tryz.t72) (R := RSeen2) (xs := acc) (ys := [{ name := z_allS_partS_allS_s_1_1_1_i, there := false, text := ([] : Str) : Seen }]) (a := acc_a) (c := acc_c) 0 Tryz.underlying50 (by kernel_rfl) rfl rfl rfl (by decide) 40 rfl hS124 rfl hl127 hs129 rfl rfl (by (try simp only [List.length_append, List.length_cons, List.length_nil]); omega) (by (try simp only [List.length_append, List.length_cons, List.length_nil]); omega) ?_
          intro a130 c131 w132 hS133
          refine WL.val1 (R_fieldAddr (b := w13.heap.size) (off := 0) (m := 1) rfl (fun _ => by kernel_rfl)) ?_
          refine S_store (i := 1) (b := w13.heap.size) (l := [.string (B ((partS ((allS s).1) 0))), .slice (acc_a) (acc).length (acc_c), .slice none 0 0]) (l' := [.string (B ((partS ((allS s).1) 0))), .slice (a130) ((acc ++ [{ name := z_allS_partS_allS_s_1_1_1_i, there := false, text := ([] : Str) : Seen }])).length (c131), .slice none 0 0]) (vs := [.slice (a130) ((acc ++ [{ name := z_allS_partS_allS_s_1_1_1_i, there := false, text := ([] : Str) : Seen }])).length (c131)]) (v := .slice (a130) ((acc ++ [{ name := z_allS_partS_allS_s_1_1_1_i, there := false, text := ([] : Str) : Seen }])).length (c131)) hS133 rfl rfl rfl Tryz.sizeOf50 rfl rfl rfl (Nat.le_of_ble_eq_true rfl) rfl rfl ?_
          intro w135 hS134
          refine WL.nil ?_
          refine block_normal ?_
          refine then_normal ?_
          refine WC.region ?_
          refine WL.val1 (R_move (v := .int .i64 (((i : Nat) : Int))) rfl) ?_
          refine WL.val1 (R_add_i (a := ((i : Nat) : Int)) (b := 2) rfl rfl (by omega)) ?_
          refine WL.val1 (R_assign (v := .int .i64 ((((i : Nat) : Int) + 2))) rfl) ?_
          refine WL.nil ?_
          refine then_normal ?_
          exact ⟨(i + 2, (acc ++ [{ name := z_allS_partS_allS_s_1_1_1_i, there := false, text := ([] : Str) : Seen }]), a130, c131), ⟨rfl, rfl, rfl, rfl, (by first | rfl | (apply congrArg (Value.int .i64); omega) | simp), trivial⟩, ⟨h126, (hl33.trans hl127), hS134, (by (try dsimp only); first | assumption | omega | simp), (by (try dsimp only); rw [← f2, seensOf_next hz_allS_partS_allS_s_1_1_1_i]; simp only [oneSeen]; (first | rw [if_pos c1] | rw [if_neg c1]); simp only [List.append_assoc, List.cons_append, List.nil_append]), (by (try dsimp only); simp; omega)⟩, (by first | (simp only []; omega) | (simp; omega))⟩
      · skip
        have hlen := pos_of_ne (s := partS (allS (partS (allS s).1 1)).1 (i + 1)) (fun hh => c1 (.inr hh))
        obtain ⟨z_allS_partS_allS_s_1_1_1_i, hz_allS_partS_allS_s_1_1_1_i⟩ : ∃ z, ((allS ((partS ((allS s).1) 1))).1)[i]? = some z := ⟨_, List.getElem?_eq_getElem (by omega)⟩
        obtain ⟨b156, o157, cs161, ha158, hr159, hat160⟩ := (hf28.mono hl33).2 i z_allS_partS_allS_s_1_1_1_i hz_allS_partS_allS_s_1_1_1_i
        subst hr159
        refine WC.draw 10 [(2, .pointer (some ⟨w.heap.size, 0, none⟩)), (3, .slice (a9) ((allS s).1).length (c10)), (5, .pointer (some ⟨w13.heap.size, 0, none⟩)), (6, .slice (a26) ((allS ((partS ((allS s).1) 1))).1).length (c27)), (8, .int .i64 (((i : Nat) : Int))), (9, .string (B ((partS ((allS ((partS ((allS s).1) 1))).1) ((i + 1))))))] [fun _ v => v = .pointer (some ⟨w13.heap.size, 1, none⟩), fun _ v => v = .slice (acc_a) (acc).length (acc_c), fun _ v => v = .slice (a26) ((allS ((partS ((allS s).1) 1))).1).length (c27), fun _ v => v = .int .i64 (((i : Nat) : Int)), fun _ v => v = .pointer (some ⟨b156, (o157 + i * Rstr.n), none⟩), fun _ v => v = .string (B (z_allS_partS_allS_s_1_1_1_i)), fun _ v => v = .string (B ((partS ((allS ((partS ((allS s).1) 1))).1) ((i + 1))))), fun _ v => v = .string (B (((partS ((allS ((partS ((allS s).1) 1))).1) ((i + 1))).drop 1))), fun _ v => v = .agg #[.string (B (z_allS_partS_allS_s_1_1_1_i)), .bool (true), .string (B (((partS ((allS ((partS ((allS s).1) 1))).1) ((i + 1))).drop 1)))], fun h v => ∃ (b0_ : Nat), v = .slice (some ⟨b0_, 0, none⟩) 1 (1) ∧ Sl RSeen2 h ([{ name := z_allS_partS_allS_s_1_1_1_i, there := true, text := ((partS ((allS ((partS ((allS s).1) 1))).1) ((i + 1))).drop 1) : Seen }]) (some ⟨b0_, 0, none⟩) (1)] hS35 (by kernel_rfl) (by kernel_rfl) (MonoFs.pure (MonoFs.pure (MonoFs.pure (MonoFs.pure (MonoFs.pure (MonoFs.pure (MonoFs.pure (MonoFs.pure (MonoFs.pure (MonoFs.cons (fun _ _ _ hl ⟨x0, e, y0⟩ => ⟨x0, e, y0.mono hl⟩) MonoFs.nil)))))))))) ⟨rfl, rfl, rfl, rfl, rfl, rfl, trivial⟩ ⟨?_, ?_, ?_, ?_, ?_, ?_, ?_, ?_, ?_, ?_, trivial⟩ ?_
        · intro r_ w192 h193 hl194 hS191 hb_ hp_
          obtain ⟨b0_, b1_, b2_, b3_, b4_, b5_, _⟩ := hb_
          refine WL.val1 (R_fieldAddr (b := w13.heap.size) (off := 0) (m := 1) b2_ (fun _ => by kernel_rfl)) ?_
          refine WL.nil ?_
          exact ⟨rfl, _, _, rfl, (Hp.le_refl _), rfl, hS191⟩
        · intro r_ w196 h197 hl198 hS195 hb_ hp_
          obtain ⟨b0_, b1_, b2_, b3_, b4_, b5_, _⟩ := hb_
          obtain ⟨p0_, _⟩ := hp_
          have p0_ : r_ 52 = .pointer (some ⟨w13.heap.size, 1, none⟩) := p0_
          refine WL.val1 (R_load (v := .slice (acc_a) (acc).length (acc_c)) p0_ (hS195.has (i := 1) rfl) (Tryz.isAgg50 _) rfl) ?_
          refine WL.nil ?_
          exact ⟨rfl, _, _, rfl, (Hp.le_refl _), rfl, hS195⟩
        · intro r_ w200 h201 hl202 hS199 hb_ hp_
          obtain ⟨b0_, b1_, b2_, b3_, b4_, b5_, _⟩ := hb_
          refine WL.val1 (R_move (v := .slice (a26) ((allS ((partS ((allS s).1) 1))).1).length (c27)) b3_) ?_
          refine WL.nil ?_
          exact ⟨rfl, _, _, rfl, (Hp.le_refl _), rfl, hS199⟩
        · intro r_ w204 h205 hl206 hS203 hb_ hp_
          obtain ⟨b0_, b1_, b2_, b3_, b4_, b5_, _⟩ := hb_
          refine WL.val1 (R_move (v := .int .i64 (((i : Nat) : Int))) b4_) ?_
          refine WL.nil ?_
          exact ⟨rfl, _, _, rfl, (Hp.le_refl _), rfl, hS203⟩
        · intro r_ w208 h209 hl210 hS207 hb_ hp_
          obtain ⟨b0_, b1_, b2_, b3_, b4_, b5_, _⟩ := hb_
          obtain ⟨p0_, p1_, _⟩ := hp_
          have p0_ : r_ 54 = .slice (a26) ((allS ((partS ((allS s).1) 1))).1).length (c27) := p0_
          have p1_ : r_ 55 = .int .i64 (((i : Nat) : Int)) := p1_
          refine WL.val1 (R_indexAddrE (i := ((i : Nat) : Int)) (m := i) ha158 p0_ p1_ Tryz.underlying58 (Tryz.sizeOf9 _) (by first | rfl | (omega)) (by omega)) ?_
          refine WL.nil ?_
          exact ⟨rfl, _, _, rfl, (Hp.le_refl _), rfl, hS207⟩
        · intro r_ w212 h213 hl214 hS211 hb_ hp_
          obtain ⟨b0_, b1_, b2_, b3_, b4_, b5_, _⟩ := hb_
          obtain ⟨p0_, _⟩ := hp_
          have p0_ : r_ 56 = .pointer (some ⟨b156, (o157 + i * Rstr.n), none⟩) := p0_
          refine WL.val1 (R_loadC (v := .string (B (z_allS_partS_allS_s_1_1_1_i))) hS211 p0_ (hat160.mono hl214) Tryz.isAgg9 rfl) ?_
          refine WL.nil ?_
          exact ⟨rfl, _, _, rfl, (Hp.le_refl _), rfl, hS211⟩
        · intro r_ w216 h217 hl218 hS215 hb_ hp_
          obtain ⟨b0_, b1_, b2_, b3_, b4_, b5_, _⟩ := hb_
          refine WL.val1 (R_move (v := .string (B ((partS ((allS ((partS ((allS s).1) 1))).1) ((i + 1)))))) b5_) ?_
          refine WL.nil ?_
          exact ⟨rfl, _, _, rfl, (Hp.le_refl _), rfl, hS215⟩
        · intro r_ w220 h221 hl222 hS219 hb_ hp_
          obtain ⟨b0_, b1_, b2_, b3_, b4_, b5_, _⟩ := hb_
          obtain ⟨p0_, _⟩ := hp_
          have p0_ : r_ 58 = .string (B ((partS ((allS ((partS ((allS s).1) 1))).1) ((i + 1))))) := p0_
          refine WL.val1 (R_sslice_l (a := (partS ((allS ((partS ((allS s).1) 1))).1) ((i + 1)))) (i := 1) (m := 1) p0_ rfl Tryz.underlying9 (by first | rfl | (omega)) (by omega)) ?_
          refine WL.nil ?_
          exact ⟨rfl, _, _, rfl, (Hp.le_refl _), rfl, hS219⟩
        · intro r_ w224 h225 hl226 hS223 hb_ hp_
          obtain ⟨b0_, b1_, b2_, b3_, b4_, b5_, _⟩ := hb_
          obtain ⟨p0_, p1_, _⟩ := hp_
          have p0_ : r_ 57 = .string (B (z_allS_partS_allS_s_1_1_1_i)) := p0_
          have p1_ : r_ 59 = .string (B (((partS ((allS ((partS ((allS s).1) 1))).1) ((i + 1))).drop 1))) := p1_
          refine WL.val1 (R_build (vs := [(0, .string (B (z_allS_partS_allS_s_1_1_1_i))), (1, .bool (true)), (2, .string (B (((partS ((allS ((partS ((allS s).1) 1))).1) ((i + 1))).drop 1))))]) (v := .agg #[.string (B (z_allS_partS_allS_s_1_1_1_i)), .bool (true), .string (B (((partS ((allS ((partS ((allS s).1) 1))).1) ((i + 1))).drop 1)))]) (pmap3 p0_ rfl p1_) (fun _ => by kernel_rfl)) ?_
          refine WL.nil ?_
          exact ⟨rfl, _, _, rfl, (Hp.le_refl _), rfl, hS223⟩
        · intro r_ w228 h229 hl230 hS227 hb_ hp_
          obtain ⟨b0_, b1_, b2_, b3_, b4_, b5_, _⟩ := hb_
          obtain ⟨p0_, _⟩ := hp_
          have p0_ : r_ 60 = .agg #[.string (B (z_allS_partS_allS_s_1_1_1_i)), .bool (true), .string (B (((partS ((allS ((partS ((allS s).1) 1))).1) ((i + 1))).drop 1)))] := p0_
          refine S_buildSliceC (R := RSeen2) (m := 1) (vs := [(0, .agg #[.string (B (z_allS_partS_allS_s_1_1_1_i)), .bool (true), .string (B (((partS ((allS ((partS ((allS s).1) 1))).1) ((i + 1))).drop 1)))])]) (cells := [.string (B (z_allS_partS_allS_s_1_1_1_i)), .bool (true), .string (B (((partS ((allS ((partS ((allS s).1) 1))).1) ((i + 1))).drop 1)))]) (xs := [{ name := z_allS_partS_allS_s_1_1_1_i, there := true, text := ((partS ((allS ((partS ((allS s).1) 1))).1) ((i + 1))).drop 1) : Seen }]) hS227 Tryz.underlying50 Tryz.sizeOf72 Tryz.zeroValue72 (by decide) (by decide) (pmap1 (v := .agg #[.string (B (z_allS_partS_allS_s_1_1_1_i)), .bool (true), .string (B (((partS ((allS ((partS ((allS s).1) 1))).1) ((i + 1))).drop 1)))]) p0_) (by kernel_rfl) (by exact (⟨[.string (B (z_allS_partS_allS_s_1_1_1_i)), .bool (true), .string (B (((partS ((allS ((partS ((allS s).1) 1))).1) ((i + 1))).drop 1)))], _, rfl, rfl, rfl⟩ : Flat RSeen2 _ [{ name := z_allS_partS_allS_s_1_1_1_i, there := true, text := ((partS ((allS ((partS ((allS s).1) 1))).1) ((i + 1))).drop 1) : Seen }] _)) rfl ?_
          intro h233 b235 w232 hl234 hs236 hS231
          refine WL.nil ?_
          exact ⟨rfl, _, _, rfl, hl234, ⟨b235, rfl, hs236⟩, hS231⟩
        · intro r_ w240 h241 hl242 hS239 hb_ hf_
          obtain ⟨b0_, b1_, b2_, b3_, b4_, b5_, _⟩ := hb_
          obtain ⟨q0_, q1_, q2_, q3_, q4_, q5_, q6_, q7_, q8_, q9_, _⟩ := hf_
          obtain ⟨b243, q9_, hs244⟩ := q9_
          refine WL.frame [(2, .pointer (some ⟨w.heap.size, 0, none⟩)), (3, .slice (a9) ((allS s).1).length (c10)), (5, .pointer (some ⟨w13.heap.size, 0, none⟩)), (6, .slice (a26) ((allS ((partS ((allS s).1) 1))).1).length (c27)), (8, .int .i64 (((i : Nat) : Int))), (9, .string (B ((partS ((allS ((partS ((allS s).1) 1))).1) ((i + 1)))))), (52, .pointer (some ⟨w13.heap.size, 1, none⟩)), (53, .slice (acc_a) (acc).length (acc_c)), (54, .slice (a26) ((allS ((partS ((allS s).1) 1))).1).length (c27)), (55, .int .i64 (((i : Nat) : Int))), (56, .pointer (some ⟨b156, (o157 + i * Rstr.n), none⟩)), (57, .string (B (z_allS_partS_allS_s_1_1_1_i))), (58, .string (B ((partS ((allS ((partS ((allS s).1) 1))).1) ((i + 1)))))), (59, .string (B (((partS ((allS ((partS ((allS s).1) 1))).1) ((i + 1))).drop 1)))), (60, .agg #[.string (B (z_allS_partS_allS_s_1_1_1_i)), .bool (true), .string (B (((partS ((allS ((partS ((allS s).1) 1))).1) ((i + 1))).drop 1)))]), (61, .slice (some ⟨b243, 0, none⟩) 1 (1))] ⟨b0_, b1_, b2_, b3_, b4_, b5_, q0_, q1_, q2_, q3_, q4_, q5_, q6_, q7_, q8_, q9_, trivial⟩ (fun r_ => ?_)
          refine S_append (info := Tryz.t72) (R := RSeen2) (xs := acc) (ys := [{ name := z_allS_partS_allS_s_1_1_1_i, there := true, text := ((partS ((allS ((partS ((allS s).1) 1))).1) ((i + 1))).drop 1) : Seen }]) (a := acc_a) (c := acc_c) 0 Tryz.underlying50 (by kernel_rfl) rfl rfl rfl (by decide) 40 rfl hS239 rfl hl242 hs244 rfl rfl (by (try simp only [List.length_append, List.length_cons, List.length_nil]); omega) (by (try simp only [List.length_append, List.length_cons, List.length_nil]); omega) ?_
          intro a245 c246 w247 hS248
          refine WL.val1 (R_fieldAddr (b := w13.heap.size) (off := 0) (m := 1) rfl (fun _ => by kernel_rfl)) ?_
          refine S_store (i := 1) (b := w13.heap.size) (l := [.string (B ((partS ((allS s).1) 0))), .slice (acc_a) (acc).length (acc_c), .slice none 0 0]) (l' := [.string (B ((partS ((allS s).1) 0))), .slice (a245) ((acc ++ [{ name := z_allS_partS_allS_s_1_1_1_i, there := true, text := ((partS ((allS ((partS ((allS s).1) 1))).1) ((i + 1))).drop 1) : Seen }])).length (c246), .slice none 0 0]) (vs := [.slice (a245) ((acc ++ [{ name := z_allS_partS_allS_s_1_1_1_i, there := true, text := ((partS ((allS ((partS ((allS s).1) 1))).1) ((i + 1))).drop 1) : Seen }])).length (c246)]) (v := .slice (a245) ((acc ++ [{ name := z_allS_partS_allS_s_1_1_1_i, there := true, text := ((partS ((allS ((partS ((allS s).1) 1))).1) ((i + 1))).drop 1) : Seen }])).length (c246)) hS248 rfl rfl rfl Tryz.sizeOf50 rfl rfl rfl (Nat.le_of_ble_eq_true rfl) rfl rfl ?_
          intro w250 hS249
          refine WL.nil ?_
          refine block_normal ?_
          refine then_normal ?_
          refine WC.region ?_
          refine WL.val1 (R_move (v := .int .i64 (((i : Nat) : Int))) rfl) ?_
          refine WL.val1 (R_add_i (a := ((i : Nat) : Int)) (b := 2) rfl rfl (by omega)) ?_
          refine WL.val1 (R_assign (v := .int .i64 ((((i : Nat) : Int) + 2))) rfl) ?_
          refine WL.nil ?_
          refine then_normal ?_
          exact ⟨(i + 2, (acc ++ [{ name := z_allS_partS_allS_s_1_1_1_i, there := true, text := ((partS ((allS ((partS ((allS s).1) 1))).1) ((i + 1))).drop 1) : Seen }]), a245, c246), ⟨rfl, rfl, rfl, rfl, (by first | rfl | (apply congrArg (Value.int .i64); omega) | simp), trivial⟩, ⟨h241, (hl33.trans hl242), hS249, (by (try dsimp only); first | assumption | omega | simp), (by (try dsimp only); rw [← f2, seensOf_next hz_allS_partS_allS_s_1_1_1_i]; simp only [oneSeen]; (first | rw [if_pos c1] | rw [if_neg c1]); simp only [List.append_assoc, List.cons_append, List.nil_append]), (by (try dsimp only); simp; omega)⟩, (by first | (simp only []; omega) | (simp; omega))⟩
    · skip
      refine WC.exit ?_
      refine then_exit ?_
      refine then_exit ?_
      refine block_exit ?_
      refine then_normal ?_
      refine WC.seq ?_
      obtain ⟨h251, hl252, hs253, hS254⟩ := hS30.growCommit (i := 0) rfl (Hp.le_refl _)
      refine WC.region ?_
      refine WL.val1 (R_move (v := .slice (a9) ((allS s).1).length (c10)) rfl) ?_
      refine S_callP (vs := [.slice (a9) ((allS s).1).length (c10), .int .i64 (2)]) hS254 Tryz.call37 rfl (ref20_part ((allS s).1) (a9) (c10) (2)) (hf11.mono ((hl23.trans hl33).trans hl252)) ?_
      intro w256 hS255
      refine S_callF (vs := [.string (B ((partS ((allS s).1) 2)))]) hS255 Tryz.call38 rfl (ref03_Parse ((partS ((allS s).1) 2)) (by first | assumption | omega)) trivial ?_
      intro h259 v261 w258 hl260 hp262 hS257
      obtain ⟨a263, c264, rfl, hf265⟩ := hp262
      refine WL.val1 (R_move (v := .tuple #[.slice (a263) ((parseS ((partS ((allS s).1) 2))).1).length (c264), .int .i64 ((parseS ((partS ((allS s).1) 2))).2)]) rfl) ?_
      refine WL.val1 (R_extract (vs := [.slice (a263) ((parseS ((partS ((allS s).1) 2))).1).length (c264), .int .i64 ((parseS ((partS ((allS s).1) 2))).2)].toArray) (v := .slice (a263) ((parseS ((partS ((allS s).1) 2))).1).length (c264)) rfl rfl) ?_
      refine WL.val1 (R_extract (vs := [.slice (a263) ((parseS ((partS ((allS s).1) 2))).1).length (c264), .int .i64 ((parseS ((partS ((allS s).1) 2))).2)].toArray) (v := .int .i64 ((parseS ((partS ((allS s).1) 2))).2)) rfl rfl) ?_
      refine WL.val1 (R_assign (v := .slice (a263) ((parseS ((partS ((allS s).1) 2))).1).length (c264)) rfl) ?_
      refine WL.val1 (R_assign (v := .int .i64 ((parseS ((partS ((allS s).1) 2))).2)) rfl) ?_
      refine WL.nil ?_
      refine then_normal ?_
      refine WC.seq ?_
      refine WC.region ?_
      refine WL.val1 (R_move (v := .slice (a263) ((parseS ((partS ((allS s).1) 2))).1).length (c264)) rfl) ?_
      refine WL.val1 (R_fieldAddr (b := w13.heap.size) (off := 0) (m := 2) rfl (fun _ => by kernel_rfl)) ?_
      refine S_store (i := 1) (b := w13.heap.size) (l := [.string (B ((partS ((allS s).1) 0))), .slice (acc_a) (acc).length (acc_c), .slice none 0 0]) (l' := [.string (B ((partS ((allS s).1) 0))), .slice (acc_a) (acc).length (acc_c), .slice (a263) ((parseS ((partS ((allS s).1) 2))).1).length (c264)]) (vs := [.slice (a263) ((parseS ((partS ((allS s).1) 2))).1).length (c264)]) (v := .slice (a263) ((parseS ((partS ((allS s).1) 2))).1).length (c264)) hS257 rfl rfl rfl Tryz.sizeOf40 rfl rfl rfl (Nat.le_of_ble_eq_true rfl) rfl rfl ?_
      intro w267 hS266
      refine WL.nil ?_
      refine then_normal ?_
      refine WC.seq ?_
      refine WC.region ?_
      refine WL.val1 (R_loadA (cs := [.string (B ((partS ((allS s).1) 0))), .slice (acc_a) (acc).length (acc_c), .slice (a263) ((parseS ((partS ((allS s).1) 2))).1).length (c264)]) rfl (hS266.has (i := 1) rfl) (Tryz.isAgg52 _) (Tryz.sizeOf52 _) rfl (sub_cells rfl)) ?_
      refine S_store (i := 2) (b := w.heap.size) (l := [.string (B (([] : Str))), .slice none 0 0, .slice none 0 0]) (l' := [.string (B ((partS ((allS s).1) 0))), .slice (acc_a) (acc).length (acc_c), .slice (a263) ((parseS ((partS ((allS s).1) 2))).1).length (c264)]) (vs := [.string (B ((partS ((allS s).1) 0))), .slice (acc_a) (acc).length (acc_c), .slice (a263) ((parseS ((partS ((allS s).1) 2))).1).length (c264)]) (v := .agg #[.string (B ((partS ((allS s).1) 0))), .slice (acc_a) (acc).length (acc_c), .slice (a263) ((parseS ((partS ((allS s).1) 2))).1).length (c264)]) hS266 rfl rfl rfl Tryz.sizeOf52 rfl rfl rfl (Nat.le_of_ble_eq_true rfl) rfl rfl ?_
      intro w269 hS268
      refine WL.nil ?_
      refine then_normal ?_
      refine WC.ret ?_
      refine top_ret (.agg #[.string (B ((partS ((allS s).1) 0))), .slice (acc_a) (acc).length (acc_c), .slice (a263) ((parseS ((partS ((allS s).1) 2))).1).length (c264)]) (givesL1 (vs := [.agg #[.string (B ((partS ((allS s).1) 0))), .slice (acc_a) (acc).length (acc_c), .slice (a263) ((parseS ((partS ((allS s).1) 2))).1).length (c264)]]) rfl ⟨⟨w.heap.size, 0, rfl, loadVarA (cs := [.string (B ((partS ((allS s).1) 0))), .slice (acc_a) (acc).length (acc_c), .slice (a263) ((parseS ((partS ((allS s).1) 2))).1).length (c264)]) (hS268.has (i := 2) rfl) (Tryz.isAgg52 _) (Tryz.sizeOf52 _) rfl (sub_cells rfl)⟩, trivial⟩ rfl) ?_
      have e_ : (oneS s).seens = acc := by rw [oneS, ← f2, drop_nil (by omega)]; simp [seensOf]
      exact ⟨h259, ((((hl6.trans hl23).trans hl33).trans hl252).trans hl260), ⟨acc_a, acc_c, a263, c264, (by rw [e_]; rfl), (by first | exact (hs253.mono hl260) | (rw [e_]; exact (hs253.mono hl260))), (by first | exact hf265 | (rw [e_]; exact hf265))⟩, hS268.pop.pop.pop⟩
set_option maxHeartbeats 400000 in
theorem ref20_Seens (a : List Seen) (a_a : Option Addr) (a_c : Nat) (b : List Seen) (b_a : Option Addr) (b_c : Nat) (ha : a.length ≤ 1000000) (hb : b.length ≤ 1000000) : PureC GG Tryz.prog 25 (fun h => Sl RSeen2 h a a_a a_c ∧ Sl RSeen2 h b b_a b_c) [.slice (a_a) (a).length (a_c), .slice (b_a) (b).length (b_c)] (.bool (sameSeens a b)) := by
  intro Γ h L w hpre hS
  obtain ⟨sl_a, sl_b⟩ := hpre
  refine Ret.body Tryz.func25 rfl Tryz.ntmps25 (Nat.le_of_ble_eq_true rfl) ?_
  refine WC.seq ?_
  refine WC.region ?_
  refine WL.val1 (R_assign (v := .bool (false)) rfl) ?_
  refine WL.nil ?_
  refine then_normal ?_
  refine WC.seq ?_
  refine WC.seq ?_
  refine WC.region ?_
  refine WL.val1 (R_move (v := .slice (a_a) (a).length (a_c)) rfl) ?_
  refine WL.val1 (R_len_slice (n := (a).length) rfl Tryz.underlying50) ?_
  refine WL.val1 (R_move (v := .slice (b_a) (b).length (b_c)) rfl) ?_
  refine WL.val1 (R_len_slice (n := (b).length) rfl Tryz.underlying50) ?_
  refine WL.val1 (R_neq (a := (((a).length : Nat) : Int)) (b := (((b).length : Nat) : Int)) rfl rfl) ?_
  refine WL.nil ?_
  refine then_normal ?_
  refine WC.condP ((((a).length : Nat) : Int) ≠ (((b).length : Nat) : Int)) rfl (fun c0 => ?_) (fun c0 => ?_)
  · skip
    refine WC.seq ?_
    refine WC.region ?_
    refine WL.val1 (R_assign (v := .bool (false)) rfl) ?_
    refine WL.nil ?_
    refine then_normal ?_
    refine WC.ret ?_
    refine then_ret ?_
    refine top_ret (.bool (false)) (gives1 rfl rfl) ?_
    exact ⟨(by apply congrArg Value.bool; rw [sameSeens, decide_eq_false (by omega)]; rfl), hS⟩
  · skip
    refine WC.skip ?_
    refine then_normal ?_
    refine WC.seq ?_
    refine WC.seq ?_
    refine WC.region ?_
    refine WL.val1 (R_assign (v := .int .i64 (0)) rfl) ?_
    refine WL.nil ?_
    refine then_normal ?_
    refine WC.block ?_
    refine WC.loopL (σ := Nat)
      (fun (q_ : Nat) => (fun (i : Nat) => [(0, .slice (a_a) (a).length (a_c)), (1, .slice (b_a) (b).length (b_c)), (5, .int .i64 (((i : Nat) : Int)))]) (q_))
      (fun (q_ : Nat) (w_ : World) => (fun (i : Nat) => ∃ h3 : Hp, h.le h3 ∧ St Γ h3 (L) w_ ∧ (i ≤ a.length) ∧ (((a.zip b).drop i).all (fun p => decide (p.1.name = p.2.name ∧ p.1.there = p.2.there ∧ p.1.text = p.2.text)) = sameSeens a b)) (q_))
      (fun (q_ : Nat) => (fun (i : Nat) => a.length - i) (q_)) (0) ?_ ?_ ?_
    · exact ⟨rfl, rfl, (by first | rfl | (apply congrArg (Value.int .i64); omega) | simp), trivial⟩
    · exact ⟨h, Hp.le_refl _, hS, (by first | assumption | omega | simp), (by rw [sameSeens, decide_eq_true (by omega), Bool.true_and]; rfl)⟩
    · rintro i r5 w2 ⟨h3, hl4, hS1, f1, f2⟩
      try dsimp only at f1 f2
      refine WC.seq ?_
      refine WC.seq ?_
      refine WC.region ?_
      refine WL.val1 (R_move (v := .int .i64 (((i : Nat) : Int))) rfl) ?_
      refine WL.val1 (R_move (v := .slice (a_a) (a).length (a_c)) rfl) ?_
      refine WL.val1 (R_len_slice (n := (a).length) rfl Tryz.underlying50) ?_
      refine WL.val1 (R_lss (a := ((i : Nat) : Int)) (b := (((a).length : Nat) : Int)) rfl rfl) ?_
      refine WL.nil ?_
      refine then_normal ?_
      refine WC.condP (((i : Nat) : Int) < (((a).length : Nat) : Int)) rfl (fun c1 => ?_) (fun c1 => ?_)
      · skip
        refine WC.skip ?_
        refine then_normal ?_
        refine WC.seq ?_
        refine WC.block ?_
        refine WC.seq ?_
        obtain ⟨z_a_i, hz_a_i⟩ : ∃ z, (a)[i]? = some z := ⟨_, List.getElem?_eq_getElem (by omega)⟩
        obtain ⟨b18, o19, cs23, ha20, hr21, hat22⟩ := (sl_a.mono hl4).2 i z_a_i hz_a_i
        subst hr21
        obtain ⟨z_b_i, hz_b_i⟩ : ∃ z, (b)[i]? = some z := ⟨_, List.getElem?_eq_getElem (by omega)⟩
        obtain ⟨b40, o41, cs45, ha42, hr43, hat44⟩ := (sl_b.mono hl4).2 i z_b_i hz_b_i
        subst hr43
        refine WC.draw 8 [(0, .slice (a_a) (a).length (a_c)), (1, .slice (b_a) (b).length (b_c)), (5, .int .i64 (((i : Nat) : Int)))] [fun _ v => v = .slice (a_a) (a).length (a_c), fun _ v => v = .int .i64 (((i : Nat) : Int)), fun _ v => v = .pointer (some ⟨b18, (o19 + i * RSeen2.n), none⟩), fun _ v => v = .agg #[.string (B (z_a_i.name)), .bool (z_a_i.there), .string (B (z_a_i.text))], fun _ v => v = .slice (b_a) (b).length (b_c), fun _ v => v = .int .i64 (((i : Nat) : Int)), fun _ v => v = .pointer (some ⟨b40, (o41 + i * RSeen2.n), none⟩), fun _ v => v = .agg #[.string (B (z_b_i.name)), .bool (z_b_i.there), .string (B (z_b_i.text))]] hS1 (by kernel_rfl) (by kernel_rfl) (MonoFs.pure (MonoFs.pure (MonoFs.pure (MonoFs.pure (MonoFs.pure (MonoFs.pure (MonoFs.pure (MonoFs.pure MonoFs.nil)))))))) ⟨rfl, rfl, rfl, trivial⟩ ⟨?_, ?_, ?_, ?_, ?_, ?_, ?_, ?_, trivial⟩ ?_
        · intro r_ w51 h52 hl53 hS50 hb_ hp_
          obtain ⟨b0_, b1_, b2_, _⟩ := hb_
          refine WL.val1 (R_move (v := .slice (a_a) (a).length (a_c)) b0_) ?_
          refine WL.nil ?_
          exact ⟨rfl, _, _, rfl, (Hp.le_refl _), rfl, hS50⟩
        · intro r_ w55 h56 hl57 hS54 hb_ hp_
          obtain ⟨b0_, b1_, b2_, _⟩ := hb_
          refine WL.val1 (R_move (v := .int .i64 (((i : Nat) : Int))) b2_) ?_
          refine WL.nil ?_
          exact ⟨rfl, _, _, rfl, (Hp.le_refl _), rfl, hS54⟩
        · intro r_ w59 h60 hl61 hS58 hb_ hp_
          obtain ⟨b0_, b1_, b2_, _⟩ := hb_
          obtain ⟨p0_, p1_, _⟩ := hp_
          have p0_ : r_ 17 = .slice (a_a) (a).length (a_c) := p0_
          have p1_ : r_ 18 = .int .i64 (((i : Nat) : Int)) := p1_
          refine WL.val1 (R_indexAddrE (i := ((i : Nat) : Int)) (m := i) ha20 p0_ p1_ Tryz.underlying50 (Tryz.sizeOf72 _) (by first | rfl | (omega)) (by omega)) ?_
          refine WL.nil ?_
          exact ⟨rfl, _, _, rfl, (Hp.le_refl _), rfl, hS58⟩
        · intro r_ w63 h64 hl65 hS62 hb_ hp_
          obtain ⟨b0_, b1_, b2_, _⟩ := hb_
          obtain ⟨p0_, _⟩ := hp_
          have p0_ : r_ 19 = .pointer (some ⟨b18, (o19 + i * RSeen2.n), none⟩) := p0_
          refine WL.val1 (R_loadCA (cs := [.string (B (z_a_i.name)), .bool (z_a_i.there), .string (B (z_a_i.text))]) hS62 p0_ (hat22.mono hl65) Tryz.isAgg72 Tryz.sizeOf72 rfl) ?_
          refine WL.nil ?_
          exact ⟨rfl, _, _, rfl, (Hp.le_refl _), rfl, hS62⟩
        · intro r_ w67 h68 hl69 hS66 hb_ hp_
          obtain ⟨b0_, b1_, b2_, _⟩ := hb_
          refine WL.val1 (R_move (v := .slice (b_a) (b).length (b_c)) b1_) ?_
          refine WL.nil ?_
          exact ⟨rfl, _, _, rfl, (Hp.le_refl _), rfl, hS66⟩
        · intro r_ w71 h72 hl73 hS70 hb_ hp_
          obtain ⟨b0_, b1_, b2_, _⟩ := hb_
          refine WL.val1 (R_move (v := .int .i64 (((i : Nat) : Int))) b2_) ?_
          refine WL.nil ?_
          exact ⟨rfl, _, _, rfl, (Hp.le_refl _), rfl, hS70⟩
        · intro r_ w75 h76 hl77 hS74 hb_ hp_
          obtain ⟨b0_, b1_, b2_, _⟩ := hb_
          obtain ⟨p0_, p1_, _⟩ := hp_
          have p0_ : r_ 21 = .slice (b_a) (b).length (b_c) := p0_
          have p1_ : r_ 22 = .int .i64 (((i : Nat) : Int)) := p1_
          refine WL.val1 (R_indexAddrE (i := ((i : Nat) : Int)) (m := i) ha42 p0_ p1_ Tryz.underlying50 (Tryz.sizeOf72 _) (by first | rfl | (omega)) (by omega)) ?_
          refine WL.nil ?_
          exact ⟨rfl, _, _, rfl, (Hp.le_refl _), rfl, hS74⟩
        · intro r_ w79 h80 hl81 hS78 hb_ hp_
          obtain ⟨b0_, b1_, b2_, _⟩ := hb_
          obtain ⟨p0_, _⟩ := hp_
          have p0_ : r_ 23 = .pointer (some ⟨b40, (o41 + i * RSeen2.n), none⟩) := p0_
          refine WL.val1 (R_loadCA (cs := [.string (B (z_b_i.name)), .bool (z_b_i.there), .string (B (z_b_i.text))]) hS78 p0_ (hat44.mono hl81) Tryz.isAgg72 Tryz.sizeOf72 rfl) ?_
          refine WL.nil ?_
          exact ⟨rfl, _, _, rfl, (Hp.le_refl _), rfl, hS78⟩
        · intro r_ w83 h84 hl85 hS82 hb_ hf_
          obtain ⟨b0_, b1_, b2_, _⟩ := hb_
          obtain ⟨q0_, q1_, q2_, q3_, q4_, q5_, q6_, q7_, _⟩ := hf_
          refine WL.frame [(0, .slice (a_a) (a).length (a_c)), (1, .slice (b_a) (b).length (b_c)), (5, .int .i64 (((i : Nat) : Int))), (17, .slice (a_a) (a).length (a_c)), (18, .int .i64 (((i : Nat) : Int))), (19, .pointer (some ⟨b18, (o19 + i * RSeen2.n), none⟩)), (20, .agg #[.string (B (z_a_i.name)), .bool (z_a_i.there), .string (B (z_a_i.text))]), (21, .slice (b_a) (b).length (b_c)), (22, .int .i64 (((i : Nat) : Int))), (23, .pointer (some ⟨b40, (o41 + i * RSeen2.n), none⟩)), (24, .agg #[.string (B (z_b_i.name)), .bool (z_b_i.there), .string (B (z_b_i.text))])] ⟨b0_, b1_, b2_, q0_, q1_, q2_, q3_, q4_, q5_, q6_, q7_, trivial⟩ (fun r_ => ?_)
          refine WL.val1 (R_aggNeq (c := (decide (z_a_i.name = z_b_i.name) && (decide (z_a_i.there = z_b_i.there) && (decide (z_a_i.text = z_b_i.text) && true)))) (xs := #[.string (B (z_a_i.name)), .bool (z_a_i.there), .string (B (z_a_i.text))]) (ys := #[.string (B (z_b_i.name)), .bool (z_b_i.there), .string (B (z_b_i.text))]) rfl rfl (by kernel_rfl) Tryz.underlying72 (by kernel_rfl) (eqFields_cons (by decide) Tryz.isAgg9 rfl rfl (eqIn_str Tryz.underlying9) (eqFields_cons (by decide) Tryz.isAgg4 rfl rfl (eqIn_bool Tryz.underlying4) (eqFields_cons (by decide) Tryz.isAgg9 rfl rfl (eqIn_str Tryz.underlying9) eqFields_nil)))) ?_
          refine WL.nil ?_
          refine then_normal ?_
          refine WC.condI (¬ (((z_a_i.name = z_b_i.name) ∧ ((z_a_i.there = z_b_i.there) ∧ ((z_a_i.text = z_b_i.text) ∧ True))))) (b := (!((decide (z_a_i.name = z_b_i.name) && (decide (z_a_i.there = z_b_i.there) && (decide (z_a_i.text = z_b_i.text) && true)))))) rfl (b_not (b_and b_dec (b_and b_dec (b_and b_dec b_true)))) (fun c2 => ?_) (fun c2 => ?_)
          · skip
            refine WC.seq ?_
            refine WC.region ?_
            refine WL.val1 (R_assign (v := .bool (false)) rfl) ?_
            refine WL.nil ?_
            refine then_normal ?_
            refine WC.ret ?_
            refine block_ret ?_
            refine then_ret ?_
            refine then_ret ?_
            refine block_ret ?_
            refine then_ret ?_
            refine top_ret (.bool (false)) (gives1 rfl rfl) ?_
            exact ⟨(by apply congrArg Value.bool; rw [← f2, all_step (zip_at hz_a_i hz_b_i), decide_eq_false (fun hh => c2 ⟨hh.1, hh.2.1, hh.2.2, trivial⟩)]; rfl), (hS82.weaken_h (hl4.trans hl85))⟩
          · skip
            refine WC.skip ?_
            refine block_normal ?_
            refine then_normal ?_
            refine WC.region ?_
            refine WL.val1 (R_move (v := .int .i64 (((i : Nat) : Int))) rfl) ?_
            refine WL.val1 (R_add_i (a := ((i : Nat) : Int)) (b := 1) rfl rfl (by omega)) ?_
            refine WL.val1 (R_assign (v := .int .i64 ((((i : Nat) : Int) + 1))) rfl) ?_
            refine WL.nil ?_
            refine then_normal ?_
            exact ⟨(i + 1), ⟨rfl, rfl, (by first | rfl | (apply congrArg (Value.int .i64); omega) | simp), trivial⟩, ⟨h84, (hl4.trans hl85), hS82, (by (try dsimp only); first | assumption | omega | simp), (by (try dsimp only); rw [← f2, all_step (zip_at hz_a_i hz_b_i)]; have c3 := Decidable.not_not.1 c2; rw [decide_eq_true (⟨c3.1, c3.2.1, c3.2.2.1⟩ : _ ∧ _ ∧ _), Bool.true_and])⟩, (by first | (simp only []; omega) | (simp; omega))⟩
      · skip
        refine WC.exit ?_
        refine then_exit ?_
        refine then_exit ?_
        refine block_exit ?_
        refine then_normal ?_
        refine WC.seq ?_
        refine WC.region ?_
        refine WL.val1 (R_assign (v := .bool (true)) rfl) ?_
        refine WL.nil ?_
        refine then_normal ?_
        refine WC.ret ?_
        refine top_ret (.bool (true)) (gives1 rfl rfl) ?_
        exact ⟨(by apply congrArg Value.bool; rw [← f2, all_end (by rw [List.length_zip]; omega)]), (hS1.weaken_h hl4)⟩
end Go.Stet
