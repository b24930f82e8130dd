/- A part of the proof engine: rules for steps of the machine over frames and memory. Each under the conditions that its own statement names. -/
import Derived.Test.YtejombkbijackaaDoorSeatD2
import Derived.Test.YtejombkbijackaaDoorBldD
import Derived.Test.YtejombkbijackaaDoorEng15
import Derived.Test.YtejombkbijackaaDoorSpec12
import Derived.Test.YtejombkbijackaaDoorD7
set_option linter.all false
set_option linter.unusedSimpArgs false
set_option linter.unusedVariables false
namespace Go.Stet
open Go Go.Eng Go.Proofs
set_option maxHeartbeats 400000 in
theorem wire_Files (l : List File) (l_a : Option Addr) (l_c : Nat) (hsz : SzF l) : PureC GG Tryd.prog 43 (fun h => Sl RFile h l l_a l_c) [.slice (l_a) (l).length (l_c)] (.string (B (filesS l))) := by
  refine PureC.fresh ?_
  intro Γ h L w hpre hL hM hin hS
  have sl_l := hpre
  have hl := hsz.1
  refine Ret.body Tryd.func43 rfl Tryd.ntmps43 (Nat.le_of_ble_eq_true rfl) ?_
  refine WC.seq ?_
  refine WC.region ?_
  refine WL.val1 (R_assign (v := .string (B (([] : Str)))) rfl) ?_
  refine WL.nil ?_
  refine then_normal ?_
  refine WC.seq ?_
  refine WC.region ?_
  refine S_alloc hS Tryd.zeroValue100 ?_
  intro w2 hS1
  refine WL.nil ?_
  refine then_normal ?_
  refine WC.seq ?_
  refine WC.seq ?_
  refine WC.region ?_
  refine WL.val1 (R_move (v := .slice (l_a) (l).length (l_c)) rfl) ?_
  refine WL.val1 (R_len_slice (n := (l).length) rfl Tryd.underlying23) ?_
  refine WL.val1 (R_move (v := .int .i64 (0)) rfl) ?_
  refine WL.nil ?_
  refine then_normal ?_
  refine WC.block ?_
  have hS3 := hS1.growNil 5 Rby h
  refine WC.loopL (σ := Nat × (List UInt8) × (Option Addr) × Nat × Value)
    (fun (q_ : Nat × (List UInt8) × (Option Addr) × Nat × Value) => (fun (i : Nat) (out : List UInt8) (out_a : Option Addr) (out_c : Nat) (p : Value) => [(3, .pointer (some ⟨w.heap.size, 0, none⟩)), (6, .slice (l_a) (l).length (l_c)), (7, .int .i64 ((((l).length : Nat) : Int))), (8, .int .i64 (((i : Nat) : Int)))]) (q_.1) (q_.2.1) (q_.2.2.1) (q_.2.2.2.1) (q_.2.2.2.2))
    (fun (q_ : Nat × (List UInt8) × (Option Addr) × Nat × Value) (w_ : World) => (fun (i : Nat) (out : List UInt8) (out_a : Option Addr) (out_c : Nat) (p : Value) => ∃ h6 : Hp, h.le h6 ∧ St Γ h6 (grow 5 Rby h6 (out) (out_a) (out_c) :: row (w.heap.size) [p, .slice (out_a) (out).length (out_c)] 100 :: L) w_ ∧ (i ≤ l.length) ∧ (out ++ filesS (l.drop i) = filesS l) ∧ (out.length ≤ i * 3000) ∧ (p = .pointer none ∨ p = .pointer (some ⟨w.heap.size, 0, none⟩))) (q_.1) (q_.2.1) (q_.2.2.1) (q_.2.2.2.1) (q_.2.2.2.2))
    (fun (q_ : Nat × (List UInt8) × (Option Addr) × Nat × Value) => (fun (i : Nat) (out : List UInt8) (out_a : Option Addr) (out_c : Nat) (p : Value) => l.length - i) (q_.1) (q_.2.1) (q_.2.2.1) (q_.2.2.2.1) (q_.2.2.2.2)) (0, ([] : List UInt8), none, 0, .pointer none) ?_ ?_ ?_
  · exact ⟨rfl, rfl, rfl, (by first | rfl | (apply congrArg (Value.int .i64); omega) | simp), trivial⟩
  · exact ⟨h, Hp.le_refl _, hS3, (by first | assumption | omega | simp), (by rfl), (by first | assumption | omega | simp), (by exact .inl rfl)⟩
  · rintro ⟨i, out, out_a, out_c, p⟩ r8 w5 ⟨h6, hl7, hS4, f1, f2, f3, hp⟩
    try dsimp only at f1 f2 f3 hp
    refine WC.seq ?_
    refine WC.region ?_
    refine WL.val1 (R_lss (a := ((i : Nat) : Int)) (b := (((l).length : Nat) : Int)) rfl rfl) ?_
    refine WL.nil ?_
    refine then_normal ?_
    refine WC.seq ?_
    refine WC.condP (((i : Nat) : Int) < (((l).length : Nat) : Int)) rfl (fun c0 => ?_) (fun c0 => ?_)
    · skip
      refine WC.skip ?_
      refine then_normal ?_
      refine WC.seq ?_
      refine WC.block ?_
      refine WC.seq ?_
      refine WC.region ?_
      obtain ⟨z_l_i, hz_l_i⟩ : ∃ z, (l)[i]? = some z := ⟨_, List.getElem?_eq_getElem (by first | omega | (have q1 := hsz.2 z_l_i (List.mem_of_getElem? hz_l_i); have q2 := putS_len z_l_i.name (by omega); have q3 := putS_len z_l_i.text (by omega); (try simp only [List.length_append]); omega))⟩
      obtain ⟨b9, o10, cs14, ha11, hr12, hat13⟩ := (sl_l.mono hl7).2 i z_l_i hz_l_i
      subst hr12
      refine WL.val1 (R_indexAddrE (i := ((i : Nat) : Int)) (m := i) ha11 rfl rfl Tryd.underlying23 (Tryd.sizeOf53 _) (by first | rfl | (first | omega | (have q1 := hsz.2 z_l_i (List.mem_of_getElem? hz_l_i); have q2 := putS_len z_l_i.name (by omega); have q3 := putS_len z_l_i.text (by omega); (try simp only [List.length_append]); omega))) (by first | omega | (have q1 := hsz.2 z_l_i (List.mem_of_getElem? hz_l_i); have q2 := putS_len z_l_i.name (by omega); have q3 := putS_len z_l_i.text (by omega); (try simp only [List.length_append]); omega))) ?_
      refine WL.val1 (R_loadCA (cs := [.string (B (z_l_i.name)), .string (B (z_l_i.text))]) hS4 rfl hat13 Tryd.isAgg53 Tryd.sizeOf53 rfl) ?_
      refine S_alloc hS4 Tryd.zeroValue53 ?_
      intro w16 hS15
      refine S_store (i := 0) (b := w5.heap.size) (l := [.string (B (([] : Str))), .string (B (([] : Str)))]) (l' := [.string (B (z_l_i.name)), .string (B (z_l_i.text))]) (vs := [.string (B (z_l_i.name)), .string (B (z_l_i.text))]) (v := .agg #[.string (B (z_l_i.name)), .string (B (z_l_i.text))]) hS15 rfl rfl rfl Tryd.sizeOf53 rfl rfl rfl (Nat.le_of_ble_eq_true rfl) rfl rfl ?_
      intro w18 hS17
      refine WL.nil ?_
      refine then_normal ?_
      refine WC.draw 5 [(3, .pointer (some ⟨w.heap.size, 0, none⟩)), (5, .pointer (some ⟨w5.heap.size, 0, none⟩)), (6, .slice (l_a) (l).length (l_c)), (7, .int .i64 ((((l).length : Nat) : Int))), (8, .int .i64 (((i : Nat) : Int)))] [fun _ v => v = .pointer (some ⟨w5.heap.size, 0, none⟩), fun _ v => v = .string (B (z_l_i.name)), fun _ v => v = .string (B (putS z_l_i.name)), fun _ v => v = .pointer (some ⟨w5.heap.size, 1, none⟩), fun _ v => v = .string (B (z_l_i.text))] hS17 (by kernel_rfl) (by kernel_rfl) (MonoFs.pure (MonoFs.pure (MonoFs.pure (MonoFs.pure (MonoFs.pure MonoFs.nil))))) ⟨rfl, rfl, rfl, rfl, rfl, trivial⟩ ⟨?_, ?_, ?_, ?_, ?_, trivial⟩ ?_
      · intro r_ w42 h43 hl44 hS41 hb_ hp_
        obtain ⟨b0_, b1_, b2_, b3_, b4_, _⟩ := hb_
        refine WL.val1 (R_fieldAddr (b := w5.heap.size) (off := 0) (m := 0) b1_ (fun _ => by kernel_rfl)) ?_
        refine WL.nil ?_
        exact ⟨rfl, _, _, rfl, (Hp.le_refl _), rfl, hS41⟩
      · intro r_ w46 h47 hl48 hS45 hb_ hp_
        obtain ⟨b0_, b1_, b2_, b3_, b4_, _⟩ := hb_
        obtain ⟨p0_, _⟩ := hp_
        have p0_ : r_ 12 = .pointer (some ⟨w5.heap.size, 0, none⟩) := p0_
        refine WL.val1 (R_load (v := .string (B (z_l_i.name))) p0_ (hS45.has (i := 0) rfl) (Tryd.isAgg9 _) rfl) ?_
        refine WL.nil ?_
        exact ⟨rfl, _, _, rfl, (Hp.le_refl _), rfl, hS45⟩
      · intro r_ w50 h51 hl52 hS49 hb_ hp_
        obtain ⟨b0_, b1_, b2_, b3_, b4_, _⟩ := hb_
        obtain ⟨p0_, _⟩ := hp_
        have p0_ : r_ 13 = .string (B (z_l_i.name)) := p0_
        refine S_callP (vs := [.string (B (z_l_i.name))]) hS49 Tryd.call34 (hmap1 p0_) (wire_Put (z_l_i.name) (by first | assumption | omega | (first | omega | (have q1 := hsz.2 z_l_i (List.mem_of_getElem? hz_l_i); have q2 := putS_len z_l_i.name (by omega); have q3 := putS_len z_l_i.text (by omega); (try simp only [List.length_append]); omega)))) trivial ?_
        intro w54 hS53
        refine WL.nil ?_
        exact ⟨rfl, _, _, rfl, (Hp.le_refl _), rfl, hS53⟩
      · intro r_ w56 h57 hl58 hS55 hb_ hp_
        obtain ⟨b0_, b1_, b2_, b3_, b4_, _⟩ := hb_
        refine WL.val1 (R_fieldAddr (b := w5.heap.size) (off := 0) (m := 1) b1_ (fun _ => by kernel_rfl)) ?_
        refine WL.nil ?_
        exact ⟨rfl, _, _, rfl, (Hp.le_refl _), rfl, hS55⟩
      · intro r_ w60 h61 hl62 hS59 hb_ hp_
        obtain ⟨b0_, b1_, b2_, b3_, b4_, _⟩ := hb_
        obtain ⟨p0_, _⟩ := hp_
        have p0_ : r_ 15 = .pointer (some ⟨w5.heap.size, 1, none⟩) := p0_
        refine WL.val1 (R_load (v := .string (B (z_l_i.text))) p0_ (hS59.has (i := 0) rfl) (Tryd.isAgg9 _) rfl) ?_
        refine WL.nil ?_
        exact ⟨rfl, _, _, rfl, (Hp.le_refl _), rfl, hS59⟩
      · intro r_ w64 h65 hl66 hS63 hb_ hf_
        obtain ⟨b0_, b1_, b2_, b3_, b4_, _⟩ := hb_
        obtain ⟨q0_, q1_, q2_, q3_, q4_, _⟩ := hf_
        refine WL.frame [(3, .pointer (some ⟨w.heap.size, 0, none⟩)), (5, .pointer (some ⟨w5.heap.size, 0, none⟩)), (6, .slice (l_a) (l).length (l_c)), (7, .int .i64 ((((l).length : Nat) : Int))), (8, .int .i64 (((i : Nat) : Int))), (12, .pointer (some ⟨w5.heap.size, 0, none⟩)), (13, .string (B (z_l_i.name))), (14, .string (B (putS z_l_i.name))), (15, .pointer (some ⟨w5.heap.size, 1, none⟩)), (16, .string (B (z_l_i.text)))] ⟨b0_, b1_, b2_, b3_, b4_, q0_, q1_, q2_, q3_, q4_, trivial⟩ (fun r_ => ?_)
        refine S_callP (vs := [.string (B (z_l_i.text))]) hS63 Tryd.call34 rfl (wire_Put (z_l_i.text) (by first | assumption | omega | (first | omega | (have q1 := hsz.2 z_l_i (List.mem_of_getElem? hz_l_i); have q2 := putS_len z_l_i.name (by omega); have q3 := putS_len z_l_i.text (by omega); (try simp only [List.length_append]); omega)))) trivial ?_
        intro w68 hS67
        refine WL.val1 (R_sadd (a := putS z_l_i.name) (b := putS z_l_i.text) rfl rfl (by (try simp only [List.length_append, List.length_cons, List.length_nil]); first | omega | (have q1 := hsz.2 z_l_i (List.mem_of_getElem? hz_l_i); have q2 := putS_len z_l_i.name (by omega); have q3 := putS_len z_l_i.text (by omega); (try simp only [List.length_append]); omega))) ?_
        have hS71 := hS67.growMono (i := 1) rfl hl66
        have hS72 : St Γ h65 (grow 5 Rby h65 (out) (out_a) (out_c) :: row (w5.heap.size) [.string (B (z_l_i.name)), .string (B (z_l_i.text))] 53 :: emp :: row (w.heap.size) [p, .slice (out_a) (out).length (out_c)] 100 :: L) w68 := hS71.front (i := 1) rfl
        have hS73 : St Γ h65 (row (w.heap.size) [p, .slice (out_a) (out).length (out_c)] 100 :: grow 5 Rby h65 (out) (out_a) (out_c) :: row (w5.heap.size) [.string (B (z_l_i.name)), .string (B (z_l_i.text))] 53 :: emp :: emp :: L) w68 := hS72.front (i := 3) rfl
        refine S_callL (vs := [.pointer (some ⟨w.heap.size, 0, none⟩), .string (B ((putS z_l_i.name ++ putS z_l_i.text)))]) (A := fun hh_ => [row (w.heap.size) [p, .slice (out_a) (out).length (out_c)] 100, grow 5 Rby hh_ (out) (out_a) (out_c)]) (L := row (w5.heap.size) [.string (B (z_l_i.name)), .string (B (z_l_i.text))] 53 :: emp :: emp :: L) hS73 Tryd.call49 rfl (bld_Write (w.heap.size) (p) (out) (out_a) (out_c) ((putS z_l_i.name ++ putS z_l_i.text)) (by first | assumption | omega | (first | omega | (have q1 := hsz.2 z_l_i (List.mem_of_getElem? hz_l_i); have q2 := putS_len z_l_i.name (by omega); have q3 := putS_len z_l_i.text (by omega); (try simp only [List.length_append]); omega))) (by first | assumption | omega | (first | omega | (have q1 := hsz.2 z_l_i (List.mem_of_getElem? hz_l_i); have q2 := putS_len z_l_i.name (by omega); have q3 := putS_len z_l_i.text (by omega); (try simp only [List.length_append]); omega)))) trivial ?_
        intro h74 A76 v77 w70 hl75 hp78 hS69
        obtain ⟨a279, c280, rfl, rfl⟩ := hp78
        have hS69 : St Γ h74 (row (w.heap.size) [.pointer (some ⟨w.heap.size, 0, none⟩), .slice (a279) ((out ++ ((putS z_l_i.name ++ putS z_l_i.text)))).length (c280)] 100 :: grow 5 Rby h74 ((out ++ ((putS z_l_i.name ++ putS z_l_i.text)))) (a279) (c280) :: row (w5.heap.size) [.string (B (z_l_i.name)), .string (B (z_l_i.text))] 53 :: emp :: emp :: L) w70 := hS69
        have hS81 : St Γ h74 (grow 5 Rby h74 ((out ++ ((putS z_l_i.name ++ putS z_l_i.text)))) (a279) (c280) :: row (w5.heap.size) [.string (B (z_l_i.name)), .string (B (z_l_i.text))] 53 :: emp :: row (w.heap.size) [.pointer (some ⟨w.heap.size, 0, none⟩), .slice (a279) ((out ++ ((putS z_l_i.name ++ putS z_l_i.text)))).length (c280)] 100 :: L) w70 := St.back (L := grow 5 Rby h74 ((out ++ ((putS z_l_i.name ++ putS z_l_i.text)))) (a279) (c280) :: row (w5.heap.size) [.string (B (z_l_i.name)), .string (B (z_l_i.text))] 53 :: emp :: row (w.heap.size) [.pointer (some ⟨w.heap.size, 0, none⟩), .slice (a279) ((out ++ ((putS z_l_i.name ++ putS z_l_i.text)))).length (c280)] 100 :: L) (i := 3) hS69 rfl
        have hS82 : St Γ h74 (row (w5.heap.size) [.string (B (z_l_i.name)), .string (B (z_l_i.text))] 53 :: grow 5 Rby h74 ((out ++ ((putS z_l_i.name ++ putS z_l_i.text)))) (a279) (c280) :: row (w.heap.size) [.pointer (some ⟨w.heap.size, 0, none⟩), .slice (a279) ((out ++ ((putS z_l_i.name ++ putS z_l_i.text)))).length (c280)] 100 :: L) w70 := St.back (L := row (w5.heap.size) [.string (B (z_l_i.name)), .string (B (z_l_i.text))] 53 :: grow 5 Rby h74 ((out ++ ((putS z_l_i.name ++ putS z_l_i.text)))) (a279) (c280) :: row (w.heap.size) [.pointer (some ⟨w.heap.size, 0, none⟩), .slice (a279) ((out ++ ((putS z_l_i.name ++ putS z_l_i.text)))).length (c280)] 100 :: L) (i := 1) hS81 rfl
        refine WL.nil ?_
        refine block_normal ?_
        refine then_normal ?_
        refine WC.region ?_
        refine WL.val1 (R_add_i (a := ((i : Nat) : Int)) (b := 1) rfl rfl (by first | omega | (have q1 := hsz.2 z_l_i (List.mem_of_getElem? hz_l_i); have q2 := putS_len z_l_i.name (by omega); have q3 := putS_len z_l_i.text (by omega); (try simp only [List.length_append]); omega))) ?_
        refine WL.val1 (R_move (v := .int .i64 ((((i : Nat) : Int) + 1))) rfl) ?_
        refine WL.nil ?_
        refine then_normal ?_
        exact ⟨(i + 1, (out ++ ((putS z_l_i.name ++ putS z_l_i.text))), a279, c280, .pointer (some ⟨w.heap.size, 0, none⟩)), ⟨rfl, rfl, rfl, (by first | rfl | (apply congrArg (Value.int .i64); omega) | simp), trivial⟩, ⟨h74, ((hl7.trans hl66).trans hl75), hS82.pop, (by (try dsimp only); first | assumption | omega | simp), (by (try dsimp only); rw [← f2, filesS_step hz_l_i]; (try simp only [List.append_assoc])), (by (try dsimp only); first | omega | (have q1 := hsz.2 z_l_i (List.mem_of_getElem? hz_l_i); have q2 := putS_len z_l_i.name (by omega); have q3 := putS_len z_l_i.text (by omega); (try simp only [List.length_append]); omega)), (by (try dsimp only); exact .inr rfl)⟩, (by first | (simp only []; omega) | (simp; omega))⟩
    · skip
      refine WC.exit ?_
      refine then_exit ?_
      refine then_exit ?_
      refine block_exit ?_
      refine then_normal ?_
      refine WC.seq ?_
      refine WC.region ?_
      have hS83 : St Γ h6 (grow 5 Rby h6 (out) (out_a) (out_c) :: emp :: row (w.heap.size) [p, .slice (out_a) (out).length (out_c)] 100 :: L) w5 := hS4.front (i := 0) rfl
      have hS84 : St Γ h6 (row (w.heap.size) [p, .slice (out_a) (out).length (out_c)] 100 :: grow 5 Rby h6 (out) (out_a) (out_c) :: emp :: emp :: L) w5 := hS83.front (i := 2) rfl
      subst hL
      refine S_call (vs := [.pointer (some ⟨w.heap.size, 0, none⟩)]) Tryd.call50 rfl ((bld_String hM hin hp (L := emp :: emp :: []) hS84).mono ?_)
      rintro v87 w86 ⟨rfl, hS85⟩
      refine WL.val1 (R_assign (v := .string (B (out))) rfl) ?_
      refine WL.nil ?_
      refine then_normal ?_
      refine WC.ret ?_
      refine top_ret (.string (B (out))) (gives1 rfl rfl) ?_
      exact ⟨(by apply congrArg Value.string; apply congrArg B; rw [← f2, drop_nil (by omega), filesS_nil, List.append_nil]), hS85⟩
end Go.Stet
