/- Contracts of functions of the program, of the references and of the law: each says what the function returns, in plain Lean, and that it leaves all memory as it was; each under the conditions that its own statement names. -/
import Derived.Test.YtejombkbijackaaGreatDoorSeatZ2
import Derived.Test.YtejombkbijackaaGreatDoorBldZ
import Derived.Test.YtejombkbijackaaGreatDoorEng13
import Derived.Test.YtejombkbijackaaGreatDoorSpec11
import Derived.Test.YtejombkbijackaaGreatDoorC3
set_option linter.all false
set_option linter.unusedSimpArgs false
set_option linter.unusedVariables false
namespace Go.Stet
open Go Go.Eng Go.Proofs
set_option maxHeartbeats 400000 in
theorem ref03_Files (l : List File) (l_a : Option Addr) (l_c : Nat) (hsz : SzF l) : PureC GG Tryz.prog 33 (fun h => Sl RFile h l l_a l_c) [.slice (l_a) (l).length (l_c)] (.string (B (filesS l))) := by
  intro Γ h L w hpre hS
  have sl_l := hpre
  have hl := hsz.1
  refine Ret.body Tryz.func33 rfl Tryz.ntmps33 (Nat.le_of_ble_eq_true rfl) ?_
  refine WC.seq ?_
  refine WC.region ?_
  refine WL.val1 (R_assign (v := .string (B (([] : Str)))) rfl) ?_
  refine WL.nil ?_
  refine then_normal ?_
  refine WC.seq ?_
  refine WC.region ?_
  refine WL.val1 (R_assign (v := .string (B (([] : Str)))) rfl) ?_
  refine WL.nil ?_
  refine then_normal ?_
  refine WC.seq ?_
  refine WC.seq ?_
  refine WC.region ?_
  refine WL.val1 (R_assign (v := .int .i64 (0)) rfl) ?_
  refine WL.nil ?_
  refine then_normal ?_
  refine WC.block ?_
  refine WC.loopL (σ := Nat × Str)
    (fun (q_ : Nat × Str) => (fun (i : Nat) (out : Str) => [(0, .slice (l_a) (l).length (l_c)), (3, .string (B (out))), (4, .int .i64 (((i : Nat) : Int)))]) (q_.1) (q_.2))
    (fun (q_ : Nat × Str) (w_ : World) => (fun (i : Nat) (out : Str) => ∃ h3 : Hp, h.le h3 ∧ St Γ h3 (L) w_ ∧ (i ≤ l.length) ∧ (out ++ filesS (l.drop i) = filesS l) ∧ (out.length ≤ i * 3000)) (q_.1) (q_.2))
    (fun (q_ : Nat × Str) => (fun (i : Nat) (out : Str) => l.length - i) (q_.1) (q_.2)) (0, []) ?_ ?_ ?_
  · exact ⟨rfl, (by first | rfl | (apply congrArg (Value.int .i64); omega) | simp), (by first | rfl | (apply congrArg (Value.int .i64); omega) | simp), trivial⟩
  · exact ⟨h, Hp.le_refl _, hS, (by first | assumption | omega | simp), (by rfl), (by first | assumption | omega | simp)⟩
  · rintro ⟨i, out⟩ r5 w2 ⟨h3, hl4, hS1, f1, f2, f3⟩
    try dsimp only at f1 f2 f3
    refine WC.seq ?_
    refine WC.seq ?_
    refine WC.region ?_
    refine WL.val1 (R_move (v := .int .i64 (((i : Nat) : Int))) rfl) ?_
    refine WL.val1 (R_move (v := .slice (l_a) (l).length (l_c)) rfl) ?_
    refine WL.val1 (R_len_slice (n := (l).length) rfl Tryz.underlying40) ?_
    refine WL.val1 (R_lss (a := ((i : Nat) : Int)) (b := (((l).length : Nat) : Int)) rfl rfl) ?_
    refine WL.nil ?_
    refine then_normal ?_
    refine WC.condP (((i : Nat) : Int) < (((l).length : Nat) : Int)) rfl (fun c0 => ?_) (fun c0 => ?_)
    · skip
      refine WC.skip ?_
      refine then_normal ?_
      refine WC.seq ?_
      refine WC.block ?_
      obtain ⟨z_l_i, hz_l_i⟩ : ∃ z, (l)[i]? = some z := ⟨_, List.getElem?_eq_getElem (by first | omega | (have q1 := hsz.2 z_l_i (List.mem_of_getElem? hz_l_i); have q2 := putS_len z_l_i.name (by omega); have q3 := putS_len z_l_i.text (by omega); (try simp only [List.length_append]); omega))⟩
      obtain ⟨b22, o23, cs27, ha24, hr25, hat26⟩ := (sl_l.mono hl4).2 i z_l_i hz_l_i
      subst hr25
      refine WC.draw 14 [(0, .slice (l_a) (l).length (l_c)), (3, .string (B (out))), (4, .int .i64 (((i : Nat) : Int)))] [fun _ v => v = .string (B (out)), fun _ v => v = .slice (l_a) (l).length (l_c), fun _ v => v = .int .i64 (((i : Nat) : Int)), fun _ v => v = .pointer (some ⟨b22, (o23 + i * RFile.n), none⟩), fun _ v => v = .pointer (some ⟨b22, (o23 + i * RFile.n), none⟩), fun _ v => v = .string (B (z_l_i.name)), fun _ v => v = .string (B (putS z_l_i.name)), fun _ v => v = .slice (l_a) (l).length (l_c), fun _ v => v = .int .i64 (((i : Nat) : Int)), fun _ v => v = .pointer (some ⟨b22, (o23 + i * RFile.n), none⟩), fun _ v => v = .pointer (some ⟨b22, (o23 + i * RFile.n) + 1, none⟩), fun _ v => v = .string (B (z_l_i.text)), fun _ v => v = .string (B (putS z_l_i.text)), fun _ v => v = .string (B ((putS z_l_i.name ++ putS z_l_i.text)))] hS1 (by kernel_rfl) (by kernel_rfl) (MonoFs.pure (MonoFs.pure (MonoFs.pure (MonoFs.pure (MonoFs.pure (MonoFs.pure (MonoFs.pure (MonoFs.pure (MonoFs.pure (MonoFs.pure (MonoFs.pure (MonoFs.pure (MonoFs.pure (MonoFs.pure MonoFs.nil)))))))))))))) ⟨rfl, rfl, rfl, trivial⟩ ⟨?_, ?_, ?_, ?_, ?_, ?_, ?_, ?_, ?_, ?_, ?_, ?_, ?_, ?_, trivial⟩ ?_
      · intro r_ w73 h74 hl75 hS72 hb_ hp_
        obtain ⟨b0_, b1_, b2_, _⟩ := hb_
        refine WL.val1 (R_move (v := .string (B (out))) b1_) ?_
        refine WL.nil ?_
        exact ⟨rfl, _, _, rfl, (Hp.le_refl _), rfl, hS72⟩
      · intro r_ w77 h78 hl79 hS76 hb_ hp_
        obtain ⟨b0_, b1_, b2_, _⟩ := hb_
        refine WL.val1 (R_move (v := .slice (l_a) (l).length (l_c)) b0_) ?_
        refine WL.nil ?_
        exact ⟨rfl, _, _, rfl, (Hp.le_refl _), rfl, hS76⟩
      · intro r_ w81 h82 hl83 hS80 hb_ hp_
        obtain ⟨b0_, b1_, b2_, _⟩ := hb_
        refine WL.val1 (R_move (v := .int .i64 (((i : Nat) : Int))) b2_) ?_
        refine WL.nil ?_
        exact ⟨rfl, _, _, rfl, (Hp.le_refl _), rfl, hS80⟩
      · intro r_ w85 h86 hl87 hS84 hb_ hp_
        obtain ⟨b0_, b1_, b2_, _⟩ := hb_
        obtain ⟨p0_, p1_, _⟩ := hp_
        have p0_ : r_ 12 = .slice (l_a) (l).length (l_c) := p0_
        have p1_ : r_ 13 = .int .i64 (((i : Nat) : Int)) := p1_
        refine WL.val1 (R_indexAddrE (i := ((i : Nat) : Int)) (m := i) ha24 p0_ p1_ Tryz.underlying40 (Tryz.sizeOf46 _) (by first | rfl | (first | omega | (have q1 := hsz.2 z_l_i (List.mem_of_getElem? hz_l_i); have q2 := putS_len z_l_i.name (by omega); have q3 := putS_len z_l_i.text (by omega); (try simp only [List.length_append]); omega))) (by first | omega | (have q1 := hsz.2 z_l_i (List.mem_of_getElem? hz_l_i); have q2 := putS_len z_l_i.name (by omega); have q3 := putS_len z_l_i.text (by omega); (try simp only [List.length_append]); omega))) ?_
        refine WL.nil ?_
        exact ⟨rfl, _, _, rfl, (Hp.le_refl _), rfl, hS84⟩
      · intro r_ w89 h90 hl91 hS88 hb_ hp_
        obtain ⟨b0_, b1_, b2_, _⟩ := hb_
        obtain ⟨p0_, _⟩ := hp_
        have p0_ : r_ 14 = .pointer (some ⟨b22, (o23 + i * RFile.n), none⟩) := p0_
        refine WL.val1 (R_fieldAddr (b := b22) (off := (o23 + i * RFile.n)) (m := 0) p0_ (fun _ => by kernel_rfl)) ?_
        refine WL.nil ?_
        exact ⟨rfl, _, _, rfl, (Hp.le_refl _), rfl, hS88⟩
      · intro r_ w93 h94 hl95 hS92 hb_ hp_
        obtain ⟨b0_, b1_, b2_, _⟩ := hb_
        obtain ⟨p0_, _⟩ := hp_
        have p0_ : r_ 15 = .pointer (some ⟨b22, (o23 + i * RFile.n), none⟩) := p0_
        refine WL.val1 (R_loadC (v := .string (B (z_l_i.name))) hS92 p0_ ((hat26.mono hl95).sub 0 1 (cs' := [.string (B (z_l_i.name))]) rfl) Tryz.isAgg9 rfl) ?_
        refine WL.nil ?_
        exact ⟨rfl, _, _, rfl, (Hp.le_refl _), rfl, hS92⟩
      · intro r_ w97 h98 hl99 hS96 hb_ hp_
        obtain ⟨b0_, b1_, b2_, _⟩ := hb_
        obtain ⟨p0_, _⟩ := hp_
        have p0_ : r_ 16 = .string (B (z_l_i.name)) := p0_
        refine S_callP (vs := [.string (B (z_l_i.name))]) hS96 Tryz.call16 (hmap1 p0_) (ref03_Put (z_l_i.name) (by first | omega | (have q1 := hsz.2 z_l_i (List.mem_of_getElem? hz_l_i); have q2 := putS_len z_l_i.name (by omega); have q3 := putS_len z_l_i.text (by omega); (try simp only [List.length_append]); omega))) trivial ?_
        intro w101 hS100
        refine WL.nil ?_
        exact ⟨rfl, _, _, rfl, (Hp.le_refl _), rfl, hS100⟩
      · intro r_ w103 h104 hl105 hS102 hb_ hp_
        obtain ⟨b0_, b1_, b2_, _⟩ := hb_
        refine WL.val1 (R_move (v := .slice (l_a) (l).length (l_c)) b0_) ?_
        refine WL.nil ?_
        exact ⟨rfl, _, _, rfl, (Hp.le_refl _), rfl, hS102⟩
      · intro r_ w107 h108 hl109 hS106 hb_ hp_
        obtain ⟨b0_, b1_, b2_, _⟩ := hb_
        refine WL.val1 (R_move (v := .int .i64 (((i : Nat) : Int))) b2_) ?_
        refine WL.nil ?_
        exact ⟨rfl, _, _, rfl, (Hp.le_refl _), rfl, hS106⟩
      · intro r_ w111 h112 hl113 hS110 hb_ hp_
        obtain ⟨b0_, b1_, b2_, _⟩ := hb_
        obtain ⟨p0_, p1_, _⟩ := hp_
        have p0_ : r_ 18 = .slice (l_a) (l).length (l_c) := p0_
        have p1_ : r_ 19 = .int .i64 (((i : Nat) : Int)) := p1_
        refine WL.val1 (R_indexAddrE (i := ((i : Nat) : Int)) (m := i) ha24 p0_ p1_ Tryz.underlying40 (Tryz.sizeOf46 _) (by first | rfl | (first | omega | (have q1 := hsz.2 z_l_i (List.mem_of_getElem? hz_l_i); have q2 := putS_len z_l_i.name (by omega); have q3 := putS_len z_l_i.text (by omega); (try simp only [List.length_append]); omega))) (by first | omega | (have q1 := hsz.2 z_l_i (List.mem_of_getElem? hz_l_i); have q2 := putS_len z_l_i.name (by omega); have q3 := putS_len z_l_i.text (by omega); (try simp only [List.length_append]); omega))) ?_
        refine WL.nil ?_
        exact ⟨rfl, _, _, rfl, (Hp.le_refl _), rfl, hS110⟩
      · intro r_ w115 h116 hl117 hS114 hb_ hp_
        obtain ⟨b0_, b1_, b2_, _⟩ := hb_
        obtain ⟨p0_, _⟩ := hp_
        have p0_ : r_ 20 = .pointer (some ⟨b22, (o23 + i * RFile.n), none⟩) := p0_
        refine WL.val1 (R_fieldAddr (b := b22) (off := (o23 + i * RFile.n)) (m := 1) p0_ (fun _ => by kernel_rfl)) ?_
        refine WL.nil ?_
        exact ⟨rfl, _, _, rfl, (Hp.le_refl _), rfl, hS114⟩
      · intro r_ w119 h120 hl121 hS118 hb_ hp_
        obtain ⟨b0_, b1_, b2_, _⟩ := hb_
        obtain ⟨p0_, _⟩ := hp_
        have p0_ : r_ 21 = .pointer (some ⟨b22, (o23 + i * RFile.n) + 1, none⟩) := p0_
        refine WL.val1 (R_loadC (v := .string (B (z_l_i.text))) hS118 p0_ ((hat26.mono hl121).sub 1 1 (cs' := [.string (B (z_l_i.text))]) rfl) Tryz.isAgg9 rfl) ?_
        refine WL.nil ?_
        exact ⟨rfl, _, _, rfl, (Hp.le_refl _), rfl, hS118⟩
      · intro r_ w123 h124 hl125 hS122 hb_ hp_
        obtain ⟨b0_, b1_, b2_, _⟩ := hb_
        obtain ⟨p0_, p1_, _⟩ := hp_
        have p0_ : r_ 22 = .string (B (z_l_i.text)) := p0_
        have p1_ : r_ 17 = .string (B (putS z_l_i.name)) := p1_
        refine S_callP (vs := [.string (B (z_l_i.text))]) hS122 Tryz.call16 (hmap1 p0_) (ref03_Put (z_l_i.text) (by first | omega | (have q1 := hsz.2 z_l_i (List.mem_of_getElem? hz_l_i); have q2 := putS_len z_l_i.name (by omega); have q3 := putS_len z_l_i.text (by omega); (try simp only [List.length_append]); omega))) trivial ?_
        intro w127 hS126
        refine WL.nil ?_
        exact ⟨rfl, _, _, rfl, (Hp.le_refl _), rfl, hS126⟩
      · intro r_ w129 h130 hl131 hS128 hb_ hp_
        obtain ⟨b0_, b1_, b2_, _⟩ := hb_
        obtain ⟨p0_, p1_, _⟩ := hp_
        have p0_ : r_ 17 = .string (B (putS z_l_i.name)) := p0_
        have p1_ : r_ 23 = .string (B (putS z_l_i.text)) := p1_
        refine WL.val1 (R_sadd (a := putS z_l_i.name) (b := putS z_l_i.text) p0_ p1_ (by (try simp only [List.length_append, List.length_cons, List.length_nil]); first | omega | (have q1 := hsz.2 z_l_i (List.mem_of_getElem? hz_l_i); have q2 := putS_len z_l_i.name (by omega); have q3 := putS_len z_l_i.text (by omega); (try simp only [List.length_append]); omega))) ?_
        refine WL.nil ?_
        exact ⟨rfl, _, _, rfl, (Hp.le_refl _), rfl, hS128⟩
      · intro r_ w133 h134 hl135 hS132 hb_ hf_
        obtain ⟨b0_, b1_, b2_, _⟩ := hb_
        obtain ⟨q0_, q1_, q2_, q3_, q4_, q5_, q6_, q7_, q8_, q9_, q10_, q11_, q12_, q13_, _⟩ := hf_
        refine WL.frame [(0, .slice (l_a) (l).length (l_c)), (3, .string (B (out))), (4, .int .i64 (((i : Nat) : Int))), (11, .string (B (out))), (12, .slice (l_a) (l).length (l_c)), (13, .int .i64 (((i : Nat) : Int))), (14, .pointer (some ⟨b22, (o23 + i * RFile.n), none⟩)), (15, .pointer (some ⟨b22, (o23 + i * RFile.n), none⟩)), (16, .string (B (z_l_i.name))), (17, .string (B (putS z_l_i.name))), (18, .slice (l_a) (l).length (l_c)), (19, .int .i64 (((i : Nat) : Int))), (20, .pointer (some ⟨b22, (o23 + i * RFile.n), none⟩)), (21, .pointer (some ⟨b22, (o23 + i * RFile.n) + 1, none⟩)), (22, .string (B (z_l_i.text))), (23, .string (B (putS z_l_i.text))), (24, .string (B ((putS z_l_i.name ++ putS z_l_i.text))))] ⟨b0_, b1_, b2_, q0_, q1_, q2_, q3_, q4_, q5_, q6_, q7_, q8_, q9_, q10_, q11_, q12_, q13_, trivial⟩ (fun r_ => ?_)
        refine WL.val1 (R_sadd (a := out) (b := (putS z_l_i.name ++ putS z_l_i.text)) rfl rfl (by (try simp only [List.length_append, List.length_cons, List.length_nil]); first | omega | (have q1 := hsz.2 z_l_i (List.mem_of_getElem? hz_l_i); have q2 := putS_len z_l_i.name (by omega); have q3 := putS_len z_l_i.text (by omega); (try simp only [List.length_append]); omega))) ?_
        refine WL.val1 (R_assign (v := .string (B ((out ++ (putS z_l_i.name ++ putS z_l_i.text))))) rfl) ?_
        refine WL.nil ?_
        refine block_normal ?_
        refine then_normal ?_
        refine WC.region ?_
        refine WL.val1 (R_move (v := .int .i64 (((i : Nat) : Int))) rfl) ?_
        refine WL.val1 (R_add_i (a := ((i : Nat) : Int)) (b := 1) rfl rfl (by first | omega | (have q1 := hsz.2 z_l_i (List.mem_of_getElem? hz_l_i); have q2 := putS_len z_l_i.name (by omega); have q3 := putS_len z_l_i.text (by omega); (try simp only [List.length_append]); omega))) ?_
        refine WL.val1 (R_assign (v := .int .i64 ((((i : Nat) : Int) + 1))) rfl) ?_
        refine WL.nil ?_
        refine then_normal ?_
        exact ⟨(i + 1, (out ++ (putS z_l_i.name ++ putS z_l_i.text))), ⟨rfl, (by first | rfl | (apply congrArg (Value.int .i64); omega) | simp), (by first | rfl | (apply congrArg (Value.int .i64); omega) | simp), trivial⟩, ⟨h134, (hl4.trans hl135), hS132, (by (try dsimp only); first | assumption | omega | simp), (by (try dsimp only); rw [← f2, filesS_step hz_l_i]; (try simp only [List.append_assoc])), (by (try dsimp only); first | omega | (have q1 := hsz.2 z_l_i (List.mem_of_getElem? hz_l_i); have q2 := putS_len z_l_i.name (by omega); have q3 := putS_len z_l_i.text (by omega); (try simp only [List.length_append]); omega))⟩, (by first | (simp only []; omega) | (simp; omega))⟩
    · skip
      refine WC.exit ?_
      refine then_exit ?_
      refine then_exit ?_
      refine block_exit ?_
      refine then_normal ?_
      refine WC.seq ?_
      refine WC.region ?_
      refine WL.val1 (R_move (v := .string (B (out))) rfl) ?_
      refine WL.val1 (R_assign (v := .string (B (out))) rfl) ?_
      refine WL.nil ?_
      refine then_normal ?_
      refine WC.ret ?_
      refine top_ret (.string (B (out))) (gives1 rfl rfl) ?_
      exact ⟨(by apply congrArg Value.string; apply congrArg B; rw [← f2, drop_nil (by omega), filesS_nil, List.append_nil]), (hS1.weaken_h hl4)⟩
set_option maxHeartbeats 400000 in
theorem ref03_Parse (s : Str) (hs : s.length ≤ 1000) : FnC GG Tryz.prog 38 (fun _ => True) [.string (B (s))] (fun h v => ∃ (a : Option Addr) (c : Nat), v = .tuple #[.slice (a) ((parseS s).1).length (c), .int .i64 ((parseS s).2)] ∧ (Sl RFile h (parseS s).1 a c)) := by
  intro Γ h L w hpre hS
  have hb := allS_bd s
  have hp := allS_pairs_bd s hs
  refine Ret.body Tryz.func38 rfl Tryz.ntmps38 (Nat.le_of_ble_eq_true rfl) ?_
  refine WC.seq ?_
  refine WC.region ?_
  refine WL.val1 (R_assign (v := .slice none 0 0) rfl) ?_
  refine WL.val1 (R_assign (v := .int .i64 (0)) rfl) ?_
  refine WL.nil ?_
  refine then_normal ?_
  refine WC.seq ?_
  refine WC.region ?_
  refine WL.val1 (R_move (v := .string (B (s))) rfl) ?_
  refine S_callF (vs := [.string (B (s))]) hS Tryz.call21 rfl (ref03_All (s) (by first | omega | exact fun x hx => hp.big x (by rw [f4] at hx; exact hx) | (have := hp.1; rw [f4]; omega))) trivial ?_
  intro h3 v5 w2 hl4 hp6 hS1
  obtain ⟨a7, c8, rfl, hf9⟩ := hp6
  refine WL.val1 (R_move (v := .tuple #[.slice (a7) ((allS s).1).length (c8), .int .i64 ((allS s).2)]) rfl) ?_
  refine WL.val1 (R_extract (vs := [.slice (a7) ((allS s).1).length (c8), .int .i64 ((allS s).2)].toArray) (v := .slice (a7) ((allS s).1).length (c8)) rfl rfl) ?_
  refine WL.val1 (R_extract (vs := [.slice (a7) ((allS s).1).length (c8), .int .i64 ((allS s).2)].toArray) (v := .int .i64 ((allS s).2)) rfl rfl) ?_
  refine WL.val1 (R_assign (v := .slice (a7) ((allS s).1).length (c8)) rfl) ?_
  refine WL.val1 (R_assign (v := .int .i64 ((allS s).2)) rfl) ?_
  refine WL.nil ?_
  refine then_normal ?_
  refine WC.seq ?_
  refine WC.seq ?_
  refine WC.region ?_
  refine WL.val1 (R_move (v := .int .i64 ((allS s).2)) rfl) ?_
  refine WL.val1 (R_neq (a := (allS s).2) (b := 0) rfl rfl) ?_
  refine WL.nil ?_
  refine then_normal ?_
  refine WC.condP ((allS s).2 ≠ 0) rfl (fun c0 => ?_) (fun c0 => ?_)
  · skip
    refine WC.seq ?_
    refine WC.region ?_
    refine WL.val1 (R_move (v := .int .i64 ((allS s).2)) rfl) ?_
    refine WL.val1 (R_assign (v := .slice none 0 0) rfl) ?_
    refine WL.val1 (R_assign (v := .int .i64 ((allS s).2)) rfl) ?_
    refine WL.nil ?_
    refine then_normal ?_
    refine WC.ret ?_
    refine then_ret ?_
    refine top_ret (.tuple #[.slice none 0 0, .int .i64 ((allS s).2)]) (gives2 rfl rfl rfl) ?_
    have e_ : parseS s = ([], (allS s).2) := by unfold parseS; rw [if_pos (by omega)]
    exact ⟨h3, hl4, ⟨none, 0, (by first | rfl | (rw [e_]; done) | (rw [e_]; rfl) | (simp; done)), (by first | exact Sl.nil _ _ _ _ | (rw [e_]; exact Sl.nil _ _ _ _))⟩, hS1⟩
  · skip
    refine WC.skip ?_
    refine then_normal ?_
    refine WC.seq ?_
    refine WC.region ?_
    refine S_buildSlice0 (R := RFile) (e := 46) hS1 Tryz.underlying40 (Tryz.sizeOf46) ?_
    intro w11 hS10
    refine WL.val1 (R_assign (v := .slice (some ⟨w2.heap.size, 0, none⟩) 0 (0)) rfl) ?_
    refine WL.nil ?_
    refine then_normal ?_
    refine WC.seq ?_
    refine WC.seq ?_
    refine WC.region ?_
    refine WL.val1 (R_assign (v := .int .i64 (0)) rfl) ?_
    refine WL.nil ?_
    refine then_normal ?_
    refine WC.block ?_
    refine WC.loopL (σ := Nat × (List File) × (Option Addr) × Nat)
      (fun (q_ : Nat × (List File) × (Option Addr) × Nat) => (fun (i : Nat) (acc : List File) (acc_a : Option Addr) (acc_c : Nat) => [(4, .slice (a7) ((allS s).1).length (c8)), (6, .slice (acc_a) (acc).length (acc_c)), (7, .int .i64 (((i : Nat) : Int)))]) (q_.1) (q_.2.1) (q_.2.2.1) (q_.2.2.2))
      (fun (q_ : Nat × (List File) × (Option Addr) × Nat) (w_ : World) => (fun (i : Nat) (acc : List File) (acc_a : Option Addr) (acc_c : Nat) => ∃ h14 : Hp, h3.le h14 ∧ St Γ h14 (grow 46 RFile h14 (acc) (acc_a) (acc_c) :: L) w_ ∧ (i ≤ (allS s).1.length + 1) ∧ (acc.length ≤ i) ∧ (acc ++ pairsS ((allS s).1.drop i) = pairsS (allS s).1)) (q_.1) (q_.2.1) (q_.2.2.1) (q_.2.2.2))
      (fun (q_ : Nat × (List File) × (Option Addr) × Nat) => (fun (i : Nat) (acc : List File) (acc_a : Option Addr) (acc_c : Nat) => (allS s).1.length + 1 - i) (q_.1) (q_.2.1) (q_.2.2.1) (q_.2.2.2)) (0, ([] : List File), some ⟨w2.heap.size, 0, none⟩, 0) ?_ ?_ ?_
    · exact ⟨rfl, (by first | rfl | (apply congrArg (Value.int .i64); omega) | simp), (by first | rfl | (apply congrArg (Value.int .i64); omega) | simp), trivial⟩
    · exact ⟨h3, Hp.le_refl _, hS10, (by first | assumption | omega | simp), (by first | assumption | omega | simp), (by rfl)⟩
    · rintro ⟨i, acc, acc_a, acc_c⟩ r16 w13 ⟨h14, hl15, hS12, f1, f2, f3⟩
      try dsimp only at f1 f2 f3
      refine WC.seq ?_
      refine WC.seq ?_
      refine WC.region ?_
      refine WL.val1 (R_move (v := .int .i64 (((i : Nat) : Int))) rfl) ?_
      refine WL.val1 (R_add_i (a := ((i : Nat) : Int)) (b := 1) rfl rfl (by omega)) ?_
      refine WL.val1 (R_move (v := .slice (a7) ((allS s).1).length (c8)) rfl) ?_
      refine WL.val1 (R_len_slice (n := ((allS s).1).length) rfl Tryz.underlying58) ?_
      refine WL.val1 (R_lss (a := (((i : Nat) : Int) + 1)) (b := ((((allS s).1).length : Nat) : Int)) rfl rfl) ?_
      refine WL.nil ?_
      refine then_normal ?_
      refine WC.condP ((((i : Nat) : Int) + 1) < ((((allS s).1).length : Nat) : Int)) rfl (fun c1 => ?_) (fun c1 => ?_)
      · skip
        refine WC.skip ?_
        refine then_normal ?_
        refine WC.seq ?_
        refine WC.block ?_
        obtain ⟨z_allS_s_1_i, hz_allS_s_1_i⟩ : ∃ z, ((allS s).1)[i]? = some z := ⟨_, List.getElem?_eq_getElem (by omega)⟩
        obtain ⟨b33, o34, cs38, ha35, hr36, hat37⟩ := (hf9.mono hl15).2 i z_allS_s_1_i hz_allS_s_1_i
        subst hr36
        obtain ⟨z_allS_s_1_i_1, hz_allS_s_1_i_1⟩ : ∃ z, ((allS s).1)[(i + 1)]? = some z := ⟨_, List.getElem?_eq_getElem (by omega)⟩
        obtain ⟨b59, o60, cs64, ha61, hr62, hat63⟩ := (hf9.mono hl15).2 (i + 1) z_allS_s_1_i_1 hz_allS_s_1_i_1
        subst hr62
        refine WC.draw 12 [(4, .slice (a7) ((allS s).1).length (c8)), (6, .slice (acc_a) (acc).length (acc_c)), (7, .int .i64 (((i : Nat) : Int)))] [fun _ v => v = .slice (acc_a) (acc).length (acc_c), fun _ v => v = .slice (a7) ((allS s).1).length (c8), fun _ v => v = .int .i64 (((i : Nat) : Int)), fun _ v => v = .pointer (some ⟨b33, (o34 + i * Rstr.n), none⟩), fun _ v => v = .string (B (z_allS_s_1_i)), fun _ v => v = .slice (a7) ((allS s).1).length (c8), fun _ v => v = .int .i64 (((i : Nat) : Int)), fun _ v => v = .int .i64 ((((i : Nat) : Int) + 1)), fun _ v => v = .pointer (some ⟨b59, (o60 + (i + 1) * Rstr.n), none⟩), fun _ v => v = .string (B (z_allS_s_1_i_1)), fun _ v => v = .agg #[.string (B (z_allS_s_1_i)), .string (B (z_allS_s_1_i_1))], fun h v => ∃ (b0_ : Nat), v = .slice (some ⟨b0_, 0, none⟩) 1 (1) ∧ Sl RFile h ([{ name := z_allS_s_1_i, text := z_allS_s_1_i_1 : File }]) (some ⟨b0_, 0, none⟩) (1)] hS12 (by kernel_rfl) (by kernel_rfl) (MonoFs.pure (MonoFs.pure (MonoFs.pure (MonoFs.pure (MonoFs.pure (MonoFs.pure (MonoFs.pure (MonoFs.pure (MonoFs.pure (MonoFs.pure (MonoFs.pure (MonoFs.cons (fun _ _ _ hl ⟨x0, e, y0⟩ => ⟨x0, e, y0.mono hl⟩) MonoFs.nil)))))))))))) ⟨rfl, rfl, rfl, trivial⟩ ⟨?_, ?_, ?_, ?_, ?_, ?_, ?_, ?_, ?_, ?_, ?_, ?_, trivial⟩ ?_
        · intro r_ w87 h88 hl89 hS86 hb_ hp_
          obtain ⟨b0_, b1_, b2_, _⟩ := hb_
          refine WL.val1 (R_move (v := .slice (acc_a) (acc).length (acc_c)) b1_) ?_
          refine WL.nil ?_
          exact ⟨rfl, _, _, rfl, (Hp.le_refl _), rfl, hS86⟩
        · intro r_ w91 h92 hl93 hS90 hb_ hp_
          obtain ⟨b0_, b1_, b2_, _⟩ := hb_
          refine WL.val1 (R_move (v := .slice (a7) ((allS s).1).length (c8)) b0_) ?_
          refine WL.nil ?_
          exact ⟨rfl, _, _, rfl, (Hp.le_refl _), rfl, hS90⟩
        · intro r_ w95 h96 hl97 hS94 hb_ hp_
          obtain ⟨b0_, b1_, b2_, _⟩ := hb_
          refine WL.val1 (R_move (v := .int .i64 (((i : Nat) : Int))) b2_) ?_
          refine WL.nil ?_
          exact ⟨rfl, _, _, rfl, (Hp.le_refl _), rfl, hS94⟩
        · intro r_ w99 h100 hl101 hS98 hb_ hp_
          obtain ⟨b0_, b1_, b2_, _⟩ := hb_
          obtain ⟨p0_, p1_, _⟩ := hp_
          have p0_ : r_ 25 = .slice (a7) ((allS s).1).length (c8) := p0_
          have p1_ : r_ 26 = .int .i64 (((i : Nat) : Int)) := p1_
          refine WL.val1 (R_indexAddrE (i := ((i : Nat) : Int)) (m := i) ha35 p0_ p1_ Tryz.underlying58 (Tryz.sizeOf9 _) (by first | rfl | (omega)) (by omega)) ?_
          refine WL.nil ?_
          exact ⟨rfl, _, _, rfl, (Hp.le_refl _), rfl, hS98⟩
        · intro r_ w103 h104 hl105 hS102 hb_ hp_
          obtain ⟨b0_, b1_, b2_, _⟩ := hb_
          obtain ⟨p0_, _⟩ := hp_
          have p0_ : r_ 27 = .pointer (some ⟨b33, (o34 + i * Rstr.n), none⟩) := p0_
          refine WL.val1 (R_loadC (v := .string (B (z_allS_s_1_i))) hS102 p0_ (hat37.mono hl105) Tryz.isAgg9 rfl) ?_
          refine WL.nil ?_
          exact ⟨rfl, _, _, rfl, (Hp.le_refl _), rfl, hS102⟩
        · intro r_ w107 h108 hl109 hS106 hb_ hp_
          obtain ⟨b0_, b1_, b2_, _⟩ := hb_
          refine WL.val1 (R_move (v := .slice (a7) ((allS s).1).length (c8)) b0_) ?_
          refine WL.nil ?_
          exact ⟨rfl, _, _, rfl, (Hp.le_refl _), rfl, hS106⟩
        · intro r_ w111 h112 hl113 hS110 hb_ hp_
          obtain ⟨b0_, b1_, b2_, _⟩ := hb_
          refine WL.val1 (R_move (v := .int .i64 (((i : Nat) : Int))) b2_) ?_
          refine WL.nil ?_
          exact ⟨rfl, _, _, rfl, (Hp.le_refl _), rfl, hS110⟩
        · intro r_ w115 h116 hl117 hS114 hb_ hp_
          obtain ⟨b0_, b1_, b2_, _⟩ := hb_
          obtain ⟨p0_, _⟩ := hp_
          have p0_ : r_ 30 = .int .i64 (((i : Nat) : Int)) := p0_
          refine WL.val1 (R_add_i (a := ((i : Nat) : Int)) (b := 1) p0_ rfl (by omega)) ?_
          refine WL.nil ?_
          exact ⟨rfl, _, _, rfl, (Hp.le_refl _), rfl, hS114⟩
        · intro r_ w119 h120 hl121 hS118 hb_ hp_
          obtain ⟨b0_, b1_, b2_, _⟩ := hb_
          obtain ⟨p0_, p1_, _⟩ := hp_
          have p0_ : r_ 29 = .slice (a7) ((allS s).1).length (c8) := p0_
          have p1_ : r_ 31 = .int .i64 ((((i : Nat) : Int) + 1)) := p1_
          refine WL.val1 (R_indexAddrE (i := (((i : Nat) : Int) + 1)) (m := (i + 1)) ha61 p0_ p1_ Tryz.underlying58 (Tryz.sizeOf9 _) (by first | rfl | (omega)) (by omega)) ?_
          refine WL.nil ?_
          exact ⟨rfl, _, _, rfl, (Hp.le_refl _), rfl, hS118⟩
        · intro r_ w123 h124 hl125 hS122 hb_ hp_
          obtain ⟨b0_, b1_, b2_, _⟩ := hb_
          obtain ⟨p0_, _⟩ := hp_
          have p0_ : r_ 32 = .pointer (some ⟨b59, (o60 + (i + 1) * Rstr.n), none⟩) := p0_
          refine WL.val1 (R_loadC (v := .string (B (z_allS_s_1_i_1))) hS122 p0_ (hat63.mono hl125) Tryz.isAgg9 rfl) ?_
          refine WL.nil ?_
          exact ⟨rfl, _, _, rfl, (Hp.le_refl _), rfl, hS122⟩
        · intro r_ w127 h128 hl129 hS126 hb_ hp_
          obtain ⟨b0_, b1_, b2_, _⟩ := hb_
          obtain ⟨p0_, p1_, _⟩ := hp_
          have p0_ : r_ 28 = .string (B (z_allS_s_1_i)) := p0_
          have p1_ : r_ 33 = .string (B (z_allS_s_1_i_1)) := p1_
          refine WL.val1 (R_build (vs := [(0, .string (B (z_allS_s_1_i))), (1, .string (B (z_allS_s_1_i_1)))]) (v := .agg #[.string (B (z_allS_s_1_i)), .string (B (z_allS_s_1_i_1))]) (pmap2 p0_ p1_) (fun _ => by kernel_rfl)) ?_
          refine WL.nil ?_
          exact ⟨rfl, _, _, rfl, (Hp.le_refl _), rfl, hS126⟩
        · intro r_ w131 h132 hl133 hS130 hb_ hp_
          obtain ⟨b0_, b1_, b2_, _⟩ := hb_
          obtain ⟨p0_, _⟩ := hp_
          have p0_ : r_ 34 = .agg #[.string (B (z_allS_s_1_i)), .string (B (z_allS_s_1_i_1))] := p0_
          refine S_buildSliceC (R := RFile) (m := 1) (vs := [(0, .agg #[.string (B (z_allS_s_1_i)), .string (B (z_allS_s_1_i_1))])]) (cells := [.string (B (z_allS_s_1_i)), .string (B (z_allS_s_1_i_1))]) (xs := [{ name := z_allS_s_1_i, text := z_allS_s_1_i_1 : File }]) hS130 Tryz.underlying40 Tryz.sizeOf46 Tryz.zeroValue46 (by decide) (by decide) (pmap1 (v := .agg #[.string (B (z_allS_s_1_i)), .string (B (z_allS_s_1_i_1))]) p0_) (by kernel_rfl) (by exact (⟨[.string (B (z_allS_s_1_i)), .string (B (z_allS_s_1_i_1))], _, rfl, rfl, rfl⟩ : Flat RFile _ [{ name := z_allS_s_1_i, text := z_allS_s_1_i_1 : File }] _)) rfl ?_
          intro h136 b138 w135 hl137 hs139 hS134
          refine WL.nil ?_
          exact ⟨rfl, _, _, rfl, hl137, ⟨b138, rfl, hs139⟩, hS134⟩
        · intro r_ w143 h144 hl145 hS142 hb_ hf_
          obtain ⟨b0_, b1_, b2_, _⟩ := hb_
          obtain ⟨q0_, q1_, q2_, q3_, q4_, q5_, q6_, q7_, q8_, q9_, q10_, q11_, _⟩ := hf_
          obtain ⟨b146, q11_, hs147⟩ := q11_
          refine WL.frame [(4, .slice (a7) ((allS s).1).length (c8)), (6, .slice (acc_a) (acc).length (acc_c)), (7, .int .i64 (((i : Nat) : Int))), (24, .slice (acc_a) (acc).length (acc_c)), (25, .slice (a7) ((allS s).1).length (c8)), (26, .int .i64 (((i : Nat) : Int))), (27, .pointer (some ⟨b33, (o34 + i * Rstr.n), none⟩)), (28, .string (B (z_allS_s_1_i))), (29, .slice (a7) ((allS s).1).length (c8)), (30, .int .i64 (((i : Nat) : Int))), (31, .int .i64 ((((i : Nat) : Int) + 1))), (32, .pointer (some ⟨b59, (o60 + (i + 1) * Rstr.n), none⟩)), (33, .string (B (z_allS_s_1_i_1))), (34, .agg #[.string (B (z_allS_s_1_i)), .string (B (z_allS_s_1_i_1))]), (35, .slice (some ⟨b146, 0, none⟩) 1 (1))] ⟨b0_, b1_, b2_, q0_, q1_, q2_, q3_, q4_, q5_, q6_, q7_, q8_, q9_, q10_, q11_, trivial⟩ (fun r_ => ?_)
          refine S_append (info := Tryz.t46) (R := RFile) (xs := acc) (ys := [{ name := z_allS_s_1_i, text := z_allS_s_1_i_1 : File }]) (a := acc_a) (c := acc_c) 0 Tryz.underlying40 (by kernel_rfl) rfl rfl rfl (by decide) 32 rfl hS142 rfl hl145 hs147 rfl rfl (by (try simp only [List.length_append, List.length_cons, List.length_nil]); omega) (by (try simp only [List.length_append, List.length_cons, List.length_nil]); omega) ?_
          intro a148 c149 w150 hS151
          refine WL.val1 (R_assign (v := .slice (a148) ((acc ++ [{ name := z_allS_s_1_i, text := z_allS_s_1_i_1 : File }])).length (c149)) rfl) ?_
          refine WL.nil ?_
          refine block_normal ?_
          refine then_normal ?_
          refine WC.region ?_
          refine WL.val1 (R_move (v := .int .i64 (((i : Nat) : Int))) rfl) ?_
          refine WL.val1 (R_add_i (a := ((i : Nat) : Int)) (b := 2) rfl rfl (by omega)) ?_
          refine WL.val1 (R_assign (v := .int .i64 ((((i : Nat) : Int) + 2))) rfl) ?_
          refine WL.nil ?_
          refine then_normal ?_
          exact ⟨(i + 2, (acc ++ [{ name := z_allS_s_1_i, text := z_allS_s_1_i_1 : File }]), a148, c149), ⟨rfl, (by first | rfl | (apply congrArg (Value.int .i64); omega) | simp), (by first | rfl | (apply congrArg (Value.int .i64); omega) | simp), trivial⟩, ⟨h144, (hl15.trans hl145), hS151, (by (try dsimp only); first | assumption | omega | simp), (by (try dsimp only); simp; omega), (by (try dsimp only); rw [← f3, pairsS_step hz_allS_s_1_i hz_allS_s_1_i_1]; simp only [List.append_assoc, List.cons_append, List.nil_append])⟩, (by first | (simp only []; omega) | (simp; omega))⟩
      · skip
        refine WC.exit ?_
        refine then_exit ?_
        refine then_exit ?_
        refine block_exit ?_
        refine then_normal ?_
        refine WC.seq ?_
        refine WC.seq ?_
        obtain ⟨h152, hl153, hs154, hS155⟩ := hS12.growCommit (i := 0) rfl (Hp.le_refl _)
        have f4 : acc = pairsS (allS s).1 := by rw [← f3, pairsS_end (by omega), List.append_nil]
        refine WC.region ?_
        refine WL.val1 (R_move (v := .slice (a7) ((allS s).1).length (c8)) rfl) ?_
        refine WL.val1 (R_len_slice (n := ((allS s).1).length) rfl Tryz.underlying58) ?_
        refine WL.val1 (R_rem_i (a := ((((allS s).1).length : Nat) : Int)) (b := 2) rfl rfl (by omega) (by omega)) ?_
        refine WL.val1 (R_eql (a := (((((allS s).1).length : Nat) : Int) % 2)) (b := 1) rfl rfl) ?_
        refine WL.val1 (R_move (v := .bool (decide ((((((allS s).1).length : Nat) : Int) % 2) = 1))) rfl) ?_
        refine WL.gpure (gd := (!(decide ((((((allS s).1).length : Nat) : Int) % 2) = 1)))) (yl_f (d := 41) rfl rfl) (fun hg => R_move (v := .slice (acc_a) (acc).length (acc_c)) rfl) ?_
        refine S_gcallP (vs := [.slice (acc_a) (acc).length (acc_c)]) (gd := (!(decide ((((((allS s).1).length : Nat) : Int) % 2) = 1)))) hS155 Tryz.call40 (yl_f (d := 41) rfl rfl) (fun hg => (hmap1 (gvT hg rfl))) (fun hg => (ref02_Right (acc) (acc_a) (acc_c) (by first | omega | exact fun x hx => hp.big x (by rw [f4] at hx; exact hx) | (have := hp.1; rw [f4]; omega)) (by first | omega | exact fun x hx => hp.big x (by rw [f4] at hx; exact hx) | (have := hp.1; rw [f4]; omega)))) (fun hg => hs154) ?_
        intro w157 hS156
        refine WL.gpure (gd := (!(decide ((((((allS s).1).length : Nat) : Int) % 2) = 1)))) (yl_f (d := 41) rfl rfl) (fun hg => R_not (b := rightS acc) (gvT hg rfl)) ?_
        refine WL.val1 (R_or (cb := decide ((((((allS s).1).length : Nat) : Int) % 2) = 1)) (yb := (!(rightS acc))) rfl rfl rfl) ?_
        refine WL.nil ?_
        refine then_normal ?_
        refine WC.condI (((((((allS s).1).length : Nat) : Int) % 2) = 1 ∨ ¬ ((rightS acc) = true))) (b := (decide ((((((allS s).1).length : Nat) : Int) % 2) = 1) || (!(rightS acc)))) rfl (b_or b_dec (b_not Iff.rfl)) (fun c2 => ?_) (fun c2 => ?_)
        · skip
          refine WC.seq ?_
          refine WC.region ?_
          refine WL.val1 (R_assign (v := .slice none 0 0) rfl) ?_
          refine WL.val1 (R_assign (v := .int .i64 (5)) rfl) ?_
          refine WL.nil ?_
          refine then_normal ?_
          refine WC.ret ?_
          refine then_ret ?_
          refine top_ret (.tuple #[.slice none 0 0, .int .i64 (5)]) (gives2 rfl rfl rfl) ?_
          have e_ : parseS s = ([], 5) := by unfold parseS; rw [← f4, if_neg (by omega), if_pos (c2.imp (by omega) (by simp))]
          exact ⟨h152, ((hl4.trans hl15).trans hl153), ⟨none, 0, (by first | rfl | (rw [e_]; done) | (rw [e_]; rfl) | (simp; done)), (by first | exact Sl.nil _ _ _ _ | (rw [e_]; exact Sl.nil _ _ _ _))⟩, hS156.pop⟩
        · skip
          refine WC.skip ?_
          refine then_normal ?_
          refine WC.seq ?_
          refine WC.region ?_
          refine WL.val1 (R_move (v := .slice (acc_a) (acc).length (acc_c)) rfl) ?_
          refine WL.val1 (R_assign (v := .slice (acc_a) (acc).length (acc_c)) rfl) ?_
          refine WL.val1 (R_assign (v := .int .i64 (0)) rfl) ?_
          refine WL.nil ?_
          refine then_normal ?_
          refine WC.ret ?_
          refine top_ret (.tuple #[.slice (acc_a) (acc).length (acc_c), .int .i64 (0)]) (gives2 rfl rfl rfl) ?_
          have e_ : parseS s = (acc, 0) := by unfold parseS; rw [← f4, if_neg (by omega), if_neg (fun hh => c2 (hh.imp (by omega) (by simp)))]
          exact ⟨h152, ((hl4.trans hl15).trans hl153), ⟨acc_a, acc_c, (by first | rfl | (rw [e_]; done) | (rw [e_]; rfl) | (simp; done)), (by first | exact hs154 | (rw [e_]; exact hs154))⟩, hS156.pop⟩
end Go.Stet
