/- A part of the proof engine: rules for steps of the machine over frames and memory. Each under the conditions that its own statement names. -/
import Derived.Test.YtcnhcckbdmjdiaaGreatDoorSeatS2
import Derived.Test.YtcnhcckbdmjdiaaGreatDoorEng12
import Derived.Lib.Builder
import Derived.WalkKit
import Derived.Laws.Externs
import Derived.Laws.IdiomCopy
set_option linter.all false
set_option linter.unusedSimpArgs false
set_option linter.unusedVariables false
namespace Go.Stet
open Go Go.Eng Go.Proofs Go.RowKit
set_option maxHeartbeats 1000000 in
set_option maxRecDepth 100000 in
theorem z_cc_used (b : Nat) (w : World) (h0 : w.cell? ⟨b, 0, none⟩ = some (.pointer (some ⟨b, 0, none⟩))) :
    Calls Tryz.prog 56 #[.pointer (some ⟨b, 0, none⟩)] w fun e w' => e = .returned (.tuple #[]) ∧ w' = w := by
  obtain ⟨j, hj, _⟩ := Option.map_eq_some_iff.1 (show (Tryz.prog.info? 88).map (·.size) = some 2 by kernel_rfl)
  go_enter Tryz.func56, Tryz.ntmps56
  go_wp2
  rw [Lib.run_neq_ptr_same w _ Tryz.underlying85 hj]
  go_wp2
  go_end0
  exact ⟨rfl, rfl⟩
set_option maxHeartbeats 1000000 in
set_option maxRecDepth 100000 in
theorem z_cc_fresh (b : Nat) (w : World) (h0 : w.cell? ⟨b, 0, none⟩ = some (.pointer none)) (hsh : w.shape? b = some (88, 2)) (hfz : w.frozen? ⟨b, 0, none⟩ = false) :
    Calls Tryz.prog 56 #[.pointer (some ⟨b, 0, none⟩)] w fun e w' => e = .returned (.tuple #[]) ∧ w' = w.setCell ⟨b, 0, none⟩ (.pointer (some ⟨b, 0, none⟩)) := by
  obtain ⟨j, hj, hjs⟩ := Option.map_eq_some_iff.1 (show (Tryz.prog.info? 88).map (·.size) = some 2 by kernel_rfl)
  go_enter Tryz.func56, Tryz.ntmps56
  go_wp2
  rw [Lib.run_to_unsafe w ⟨b, 0, none⟩ Tryz.underlying85 Tryz.underlying112 hj (by rw [hjs]; decide) hsh (Nat.zero_lt_succ 1)]
  simp only [Result.andThen]
  rw [Oper.upon_value]
  go_wp2
  rw [run_callFunc_extern Tryz.func64 (by kernel_rfl) (by kernel_rfl) (by kernel_rfl) (e := Extern.AbiNoEscape.same) (by kernel_rfl)]
  rw [Lib.run_noEscape]
  simp only [Result.andThen]
  rw [Oper.upon_value]
  go_wp2
  rw [Lib.run_from_unsafe w ⟨b, 0, none⟩ Tryz.underlying112 Tryz.underlying85 hj hsh (by kernel_rfl)]
  simp only [Result.andThen]
  rw [Oper.upon_value]
  go_wp2
  go_end0
  exact ⟨rfl, rfl⟩
theorem copyCheck_M (b : Nat) (p v : Value) (hp : p = .pointer none ∨ p = .pointer (some ⟨b, 0, none⟩)) :
    MutL GG Tryz.prog 56 (fun _ => True) [.pointer (some ⟨b, 0, none⟩)] (fun _ => [row b [p, v] 88]) (fun _ A _ => A = [row b [.pointer (some ⟨b, 0, none⟩), v] 88]) := by
  intro Γ h L w _ hS
  have hb : w.heap[b]? = some (.cells #[p, v] 88 (0, 0)) := hS.has (i := 0) rfl
  rcases hp with rfl | rfl
  · refine Ret.of (z_cc_fresh b w (by rw [cell_row hb]; rfl) (by simp [World.shape?, hb]) (Lib.frozen_of_heap hb 0)) ?_
    rintro _ w' ⟨rfl, rfl⟩
    refine ⟨_, rfl, h, _, Hp.le_refl _, rfl, ?_⟩
    rw [setCell_eq_setRow _ b 0 _ _ _ _ hb]
    exact hS.setRow (i := 0) (l' := [.pointer (some ⟨b, 0, none⟩), v]) rfl
  · refine Ret.of (z_cc_used b w (by rw [cell_row hb]; rfl)) ?_
    rintro _ w' ⟨rfl, rfl⟩
    exact ⟨_, rfl, h, _, Hp.le_refl _, rfl, hS⟩
theorem flat_bytes {h : Hp} : ∀ {l : Str} {cells : List Value}, Flat Rby h l cells → cells = Lib.byteCells l
  | [], _, f => f
  | _ :: _, _, ⟨cs, rest, h1, h2, h3⟩ => by
    have h2' : cs = [.int .u8 _] := h2
    subst h1; subst h2'; rw [flat_bytes h3]; rfl
theorem bld_String {Γ : Ctx GG} {h0 h h1 : Hp} {w : World} {b c : Nat} {p : Value} {l : Str} {a : Option Addr} {L : List HProp} (hM : Γ.M = fun _ => False) (hin : In h0 Γ.we)
    (hp : p = .pointer none ∨ p = .pointer (some ⟨b, 0, none⟩)) (hS : St Γ h (row b [p, .slice a l.length c] 88 :: grow 5 Rby h1 l a c :: L) w) :
    Ret Tryz.prog 43 [Value.pointer (some ⟨b, 0, none⟩)].toArray w fun v w' => v = .string (B l) ∧ St Γ h0 [] w' := by
  have hb : w.heap[b]? = some (.cells #[p, .slice a l.length c] 88 (0, 0)) := hS.has (i := 0) rfl
  obtain ⟨gr, kr1, kr2, kr3⟩ := hS.look (i := 0) (A := row b [p, .slice a l.length c] 88) rfl
  have hB : Γ.we.heap.size ≤ b := by
    rcases (kr3 b _ (by rw [kr1 b, if_pos rfl])).2 with h2 | h2
    · exact h2
    · rw [hM] at h2; exact h2.elim
  obtain ⟨g1, k1, k2, k3⟩ := hS.look (i := 1) (A := grow 5 Rby h1 l a c) rfl
  have hlen : (Lib.byteCells l).length = l.length := by simp [Lib.byteCells]
  have hown : w.ownsRow Γ.we.heap.size 5 1 (.slice a l.length c) (Lib.byteCells l).length (Lib.byteCells l) ∧ (Value.slice a l.length c).ownBlock ≠ some b := by
    rcases k1 with ⟨q1, q2, q3, _⟩ | ⟨b2, cur, cells, q1, q2, q3, q4, q5, q6, q7⟩
    · subst q1; subst q2; subst q3
      exact ⟨⟨by simp, .inl ⟨rfl, rfl⟩⟩, by simp [Value.ownBlock]⟩
    · subst q1
      have hb2 : w.heap[b2]? = some (.cells cur 5 (0, 0)) := k2 _ _ (by rw [q2 b2, if_pos rfl])
      have hB2 : Γ.we.heap.size ≤ b2 := by
        rcases (k3 b2 _ (by rw [q2 b2, if_pos rfl])).2 with h2 | h2
        · exact h2
        · rw [hM] at h2; exact h2.elim
      have hc := flat_bytes q6
      subst hc
      refine ⟨⟨by simp, .inr ⟨b2, c, cur, by rw [hlen], hB2, hb2, by rw [hlen]; exact q3, q4, q5, by rw [Nat.mul_one]; exact q7⟩⟩, ?_⟩
      intro he
      have he' : b2 = b := Option.some.inj he
      subst he'
      rw [hb] at hb2
      injection hb2 with hb2
      injection hb2 with _ hb2
      exact absurd hb2 (by decide)
  have hI : Lib.IsBuilder 88 5 Γ.we.heap.size b (Lib.byteCells l) w := by
    rcases hp with rfl | rfl
    · exact .inl ⟨hB, _, hb, hown⟩
    · exact .inr ⟨hB, _, hb, hown⟩
  refine Ret.of (Tryz.Builder_String_any _ b l w hI hS.keep.size) ?_
  rintro e w' ⟨rfl, hBw⟩
  have hk : Kept Γ.we Γ.M w' := ⟨hBw.os.trans hS.keep.os, hBw.tape.trans hS.keep.tape, hBw.output.trans hS.keep.output, Nat.le_trans hS.keep.size hBw.size, fun k hk hm => by
    rw [hBw.block k hk]; exact hS.keep.old k hk hm⟩
  refine ⟨_, rfl, rfl, hk, fun k o ho => ?_, fun _ => none, fun _ => rfl, fun _ _ e => (by cases e), fun _ => .inr rfl, fun _ _ e => (by cases e)⟩
  have h2 := hin k o ho
  have hlt : k < Γ.we.heap.size := (Array.getElem?_eq_some_iff.1 h2).1
  rw [hk.old k hlt (by rw [hM]; exact fun x => x)]
  exact h2
end Go.Stet
