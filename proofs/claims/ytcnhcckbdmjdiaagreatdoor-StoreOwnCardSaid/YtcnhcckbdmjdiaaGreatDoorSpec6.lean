/- What the layers compute, in plain Lean, and laws about that. Each under the conditions that its own statement names. -/
import Derived.Test.YtcnhcckbdmjdiaaGreatDoorSpec5
set_option linter.all false
set_option linter.unusedSimpArgs false
set_option linter.unusedVariables false
namespace Go.Stet
open Go Go.Eng
theorem okSeen_no (x : Seen) : okSeen x = false ↔ (x.name.length < 1 ∨ 100 < x.name.length ∨ 4000 < x.text.length ∨ (¬ (x.there = true) ∧ x.text ≠ [])) := by
  unfold okSeen
  rw [← Bool.not_eq_true, Bool.and_eq_true, Bool.and_eq_true, Bool.and_eq_true, Bool.or_eq_true, decide_eq_true_iff, decide_eq_true_iff, decide_eq_true_iff, decide_eq_true_iff]
  constructor
  · intro h
    by_cases h1 : x.name.length < 1
    · exact .inl h1
    by_cases h2 : 100 < x.name.length
    · exact .inr (.inl h2)
    by_cases h3 : 4000 < x.text.length
    · exact .inr (.inr (.inl h3))
    refine .inr (.inr (.inr ⟨fun h4 => h ⟨⟨⟨by omega, by omega⟩, by omega⟩, .inl h4⟩, fun h4 => h ⟨⟨⟨by omega, by omega⟩, by omega⟩, .inr h4⟩⟩))
  · rintro (h | h | h | ⟨h1, h2⟩) ⟨⟨⟨k1, k2⟩, k3⟩, k4⟩
    · omega
    · omega
    · omega
    · exact k4.elim h1 h2
theorem len_zero {s : Str} : s = [] ↔ s.length < 1 := by
  cases s <;> simp
theorem recSeen_c {x : Seen} {d : Bool} {u v : Int} (hu : u = cnt d) (hv : v = u + 1) :
    (((((1 < v ∨ x.name = ([] : Str)) ∨ 100 < ((x.name.length : Nat) : Int)) ∨ 4000 < ((x.text.length : Nat) : Int)) ∨ (¬ (x.there = true) ∧ x.text ≠ ([] : Str)))) ↔ (d = true ∨ okSeen x = false) := by
  rw [okSeen_no, len_zero]
  have : (1 < v) ↔ d = true := by cases d <;> simp [cnt] at hu <;> simp <;> omega
  rw [this]
  constructor
  · rintro ((((h | h) | h) | h) | h)
    · exact .inl h
    · exact .inr (.inl h)
    · exact .inr (.inr (.inl (by omega)))
    · exact .inr (.inr (.inr (.inl (by omega))))
    · exact .inr (.inr (.inr (.inr h)))
  · rintro (h | h | h | h | h)
    · exact .inl (.inl (.inl (.inl h)))
    · exact .inl (.inl (.inl (.inr h)))
    · exact .inl (.inl (.inr (by omega)))
    · exact .inl (.inr (by omega))
    · exact .inr h
theorem refSeen_c {x : Seen} :
    ((((((x.name.length : Nat) : Int) < 1 ∨ 100 < ((x.name.length : Nat) : Int)) ∨ 4000 < ((x.text.length : Nat) : Int)) ∨ (¬ (x.there = true) ∧ x.text ≠ ([] : Str)))) ↔ okSeen x = false := by
  rw [okSeen_no]
  constructor
  · rintro (((h | h) | h) | h)
    · exact .inl (by omega)
    · exact .inr (.inl (by omega))
    · exact .inr (.inr (.inl (by omega)))
    · exact .inr (.inr (.inr h))
  · rintro (h | h | h | h)
    · exact .inl (.inl (.inl (by omega)))
    · exact .inl (.inl (.inr (by omega)))
    · exact .inl (.inr (by omega))
    · exact .inr h
theorem cnt_step {f : Str → Int} {l : List Seen} {i : Nat} {x : Seen} (h : l[i]? = some x) (hf : ∀ k, f k = cnt (dupS k (l.take i))) (hd : dupS x.name (l.take i) = false) (k : Str) :
    fput f x.name (f x.name + 1) k = cnt (dupS k (l.take (i + 1))) := by
  rw [dupS_succ h]
  by_cases hk : k = x.name
  · subst hk; rw [fput_same, hf, hd]; simp [cnt]
  · rw [fput_ne _ _ hk, hf]; rw [show decide (x.name = k) = false from decide_eq_false fun e => hk e.symm, Bool.or_false]
theorem cntR_step {f : Str → Int} {l : List Rec} {i : Nat} {x : Rec} (h : l[i]? = some x) (hf : ∀ k, f k = cnt (dupR k (l.take i))) (hd : dupR x.name (l.take i) = false) (k : Str) :
    fput f x.name (f x.name + 1) k = cnt (dupR k (l.take (i + 1))) := by
  rw [dupR_succ h]
  by_cases hk : k = x.name
  · subst hk; rw [fput_same, hf, hd]; simp [cnt]
  · rw [fput_ne _ _ hk, hf]; rw [show decide (x.name = k) = false from decide_eq_false fun e => hk e.symm, Bool.or_false]
theorem cnt_gt {d : Bool} {u v : Int} (hu : u = cnt d) (hv : v = u + 1) : 1 < v ↔ d = true := by cases d <;> simp [cnt] at hu <;> simp <;> omega
theorem bool_no {b : Bool} (h : ¬ (b = true)) : b = false := by cases b <;> simp_all
end Go.Stet
namespace Go.Stet
open Go Go.Eng
theorem rgtS_end {l : List Rec} {i : Nat} (h : l.length ≤ i) (f2 : rgtF (l.take i) (l.drop i) = rgtF [] l) : rgtS l = decide (((l.length : Nat) : Int) ≤ 12) := by
  rw [rgtS, ← f2, rgtF_end h, Bool.true_and]; exact decide_eq_decide.2 (by omega)
theorem SzR.pieces {r : Rec} (h : SzR r) : r.name.length ≤ 1000 ∧ r.seens.length ≤ 1000 ∧ r.files.length ≤ 1000 := ⟨h.1, h.2.1.1, h.2.2.1⟩
theorem seenS_eq (x : Seen) (m : Str) (h : m = markS x) : putS x.name ++ putS m = seenS x := by rw [h]; rfl
theorem markS_yes {x : Seen} (h : x.there = true) : markS x = [43] ++ x.text := by rw [markS, if_pos h]; rfl
theorem markS_no {x : Seen} (h : ¬ x.there = true) : markS x = [45] := by rw [markS, if_neg h]
theorem tag_len : (putS tag).length ≤ 20 := Nat.le_trans (putS_len tag (by decide)) (by decide)
end Go.Stet
