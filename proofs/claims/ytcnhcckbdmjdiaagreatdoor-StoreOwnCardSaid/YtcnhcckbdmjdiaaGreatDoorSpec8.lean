/- What the layers compute, in plain Lean, and laws about that. Each under the conditions that its own statement names. -/
import Derived.Test.YtcnhcckbdmjdiaaGreatDoorSpec7
set_option linter.all false
set_option linter.unusedSimpArgs false
set_option linter.unusedVariables false
namespace Go.Stet
open Go Go.Eng
/-! ### the program's own reading: with a mark 'bad' -/
def rallS (s : Str) (n : Int) : List Str := if (allS s).2 ≠ 0 ∨ ((allS s).1.length : Int) % n ≠ 0 then [] else (allS s).1
def rallB (s : Str) (n : Int) : Bool := decide ((allS s).2 ≠ 0) || decide (((allS s).1.length : Int) % n ≠ 0)
def takeSeen (n m : Str) : Seen := ⟨n, decide (m ≠ [45]), if m ≠ [45] ∧ m ≠ [] then m.drop 1 else []⟩
def takeSeens : List Str → List Seen
  | a :: b :: l => takeSeen a b :: takeSeens l
  | _ => []
def takeRec (p : List Str) : Rec := ⟨partS p 0, takeSeens (rallS (partS p 1) 2), (parseS (partS p 2)).1⟩
/-- one record read: bad, and the records so far -/
def takeS (bad : Bool) (acc : List Rec) (s : Str) : Bool × List Rec :=
  if (rallS s 3).length ≠ 3 then (true, acc)
  else (bad || rallB s 3 || rallB (partS (rallS s 3) 1) 2 || decide ((parseS (partS (rallS s 3) 2)).2 ≠ 0), acc ++ [takeRec (rallS s 3)])
def takesF : List Str → Bool × List Rec → Bool × List Rec
  | [], b => b
  | x :: xs, b => takesF xs (takeS b.1 b.2 x)
def takesS (s : Str) : Bool × List Rec := takesF ((rallS s 1).drop 1) (rallB s 1, [])
def decTake (s : Str) : List Rec × Int :=
  if (takesS s).1 then ([], 5) else if (encS (takesS s).2).2 ≠ 0 ∨ (encS (takesS s).2).1 ≠ s then ([], 5) else ((takesS s).2, 0)
theorem rallS_yes {s : Str} {n : Int} (h : ¬ ((allS s).2 ≠ 0 ∨ ((allS s).1.length : Int) % n ≠ 0)) : rallS s n = (allS s).1 := if_neg h
theorem rallS_no {s : Str} {n : Int} (h : (allS s).2 ≠ 0 ∨ ((allS s).1.length : Int) % n ≠ 0) : rallS s n = [] := if_pos h
theorem rallB_yes {s : Str} {n : Int} (h : ¬ ((allS s).2 ≠ 0 ∨ ((allS s).1.length : Int) % n ≠ 0)) : rallB s n = false := by
  have := not_or.1 h; rw [rallB, decide_eq_false this.1, decide_eq_false this.2]; rfl
theorem rallB_no {s : Str} {n : Int} (h : (allS s).2 ≠ 0 ∨ ((allS s).1.length : Int) % n ≠ 0) : rallB s n = true := by
  rcases h with h | h <;> simp [rallB, h]
theorem rallS_bd (s : Str) (n : Int) : (∀ x ∈ rallS s n, x.length ≤ s.length) ∧ (rallS s n).length ≤ s.length := by
  have := allS_bd s
  unfold rallS; split
  · exact ⟨fun x hx => (by cases hx), Nat.zero_le _⟩
  · exact ⟨this.1, this.2.1⟩
theorem rallS_mod {s : Str} : ((rallS s 2).length : Int) % 2 = 0 := by
  unfold rallS; split
  · rfl
  · rename_i h; exact Decidable.not_not.1 (not_or.1 h).2
theorem takeSeens_step {l : List Str} {i : Nat} {a b : Str} (ha : l[i]? = some a) (hb : l[i + 1]? = some b) : takeSeens (l.drop i) = takeSeen a b :: takeSeens (l.drop (i + 2)) := by
  rw [drop_cons ha, drop_cons hb]; rfl
theorem takeSeens_len : ∀ l : List Str, (takeSeens l).length ≤ l.length
  | [] => Nat.le_refl _
  | [_] => Nat.zero_le _
  | a :: b :: l => by have := takeSeens_len l; simp only [takeSeens, List.length_cons]; omega
theorem takeSeens_sz {m : Nat} : ∀ {l : List Str}, (∀ x ∈ l, x.length ≤ m) → ∀ x ∈ takeSeens l, x.name.length ≤ m ∧ x.text.length ≤ m
  | [], _, x, h => by cases h
  | [_], _, x, h => by cases h
  | a :: b :: l, h, x, hx => by
    rcases List.mem_cons.1 hx with hx | hx
    · subst hx
      have h1 := h a (by simp)
      have h2 := h b (by simp)
      refine ⟨h1, ?_⟩
      simp only [takeSeen]; split
      · simp only [List.length_drop]; omega
      · exact Nat.zero_le _
    · exact takeSeens_sz (fun y hy => h y (by simp [hy])) x hx
theorem takeRec_sz {p : List Str} (h : ∀ x ∈ p, x.length ≤ 1000) : SzR (takeRec p) := by
  have p0 := partS_len h 0
  have p1 := partS_len h 1
  have p2 := partS_len h 2
  have hb := rallS_bd (partS p 1) 2
  have hl := takeSeens_len (rallS (partS p 1) 2)
  refine ⟨p0, ⟨?_, fun x hx => ?_⟩, parseS_sz _ p2⟩
  · simp only [takeRec]; omega
  · have := takeSeens_sz hb.1 x hx; omega
theorem takeS_sz {s : Str} (hs : s.length ≤ 1000) {b : Bool} {acc : List Rec} (h : ∀ x ∈ acc, SzR x) : ∀ x ∈ (takeS b acc s).2, SzR x := by
  unfold takeS; split
  · exact h
  · intro x hx
    rcases List.mem_append.1 hx with hx | hx
    · exact h x hx
    · rw [List.mem_singleton] at hx; subst hx
      have := rallS_bd s 3
      exact takeRec_sz fun y hy => Nat.le_trans (this.1 y hy) hs
theorem takeS_len (s : Str) (b : Bool) (acc : List Rec) : (takeS b acc s).2.length ≤ acc.length + 1 := by
  unfold takeS; split <;> simp
theorem takes_step {l : List Str} {i : Nat} {x : Str} (h : l[i]? = some x) (hi : 0 < i) (b : Bool) (acc : List Rec) : takesF (l.drop (max 1 i)) (b, acc) = takesF (l.drop (max 1 (i + 1))) (takeS b acc x) := by
  rw [show max 1 i = i by omega, show max 1 (i + 1) = i + 1 by omega, drop_cons h]; rfl
theorem takes_end {l : List Str} {i : Nat} (h : l.length ≤ i) (p : Bool × List Rec) : takesF (l.drop (max 1 i)) p = p := by rw [drop_nil (by omega)]; rfl
end Go.Stet
namespace Go.Stet
open Go Go.Eng
theorem same_go {x y : Rec} (c : ¬ ((x.name ≠ y.name ∨ ¬ (sameSeens x.seens y.seens = true)) ∨ ((x.files.length : Nat) : Int) ≠ ((y.files.length : Nat) : Int))) : x.name = y.name ∧ sameSeens x.seens y.seens = true ∧ x.files.length = y.files.length := by
  have h1 := not_or.1 c
  have h2 := not_or.1 h1.1
  refine ⟨Decidable.not_not.1 h2.1, Decidable.not_not.1 h2.2, ?_⟩
  have := Decidable.not_not.1 h1.2
  omega
theorem sameRec_files {x y : Rec} (c : x.name = y.name ∧ sameSeens x.seens y.seens = true ∧ x.files.length = y.files.length) : sameRec x y = sameFiles x.files y.files := by
  rw [sameRec, decide_eq_true c.1, c.2.1, decide_eq_true c.2.2]; rfl
theorem sameRec_no {x y : Rec} (c : (x.name ≠ y.name ∨ ¬ (sameSeens x.seens y.seens = true)) ∨ ((x.files.length : Nat) : Int) ≠ ((y.files.length : Nat) : Int)) : sameRec x y = false := by
  rcases c with (c | c) | c
  · rw [sameRec, decide_eq_false c]; rfl
  · rw [sameRec, bool_no c]; simp
  · rw [sameRec, decide_eq_false (p := x.files.length = y.files.length) (fun e => c (by rw [e]))]; simp
end Go.Stet
