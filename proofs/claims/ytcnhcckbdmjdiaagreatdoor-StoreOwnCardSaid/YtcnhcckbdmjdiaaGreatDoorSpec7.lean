/- What the layers compute, in plain Lean, and laws about that. Each under the conditions that its own statement names. -/
import Derived.Test.YtcnhcckbdmjdiaaGreatDoorSpec6
set_option linter.all false
set_option linter.unusedSimpArgs false
set_option linter.unusedVariables false
namespace Go.Stet
open Go Go.Eng
def sameSeens (a b : List Seen) : Bool := decide (a.length = b.length) && (a.zip b).all fun p => decide (p.1.name = p.2.name ∧ p.1.there = p.2.there ∧ p.1.text = p.2.text)
def sameFiles (a b : List File) : Bool := (a.zip b).all fun p => decide (p.1.name = p.2.name ∧ p.1.text = p.2.text)
def sameRec (a b : Rec) : Bool := decide (a.name = b.name) && sameSeens a.seens b.seens && decide (a.files.length = b.files.length) && sameFiles a.files b.files
def sameS (a b : List Rec) : Bool := decide (a.length = b.length) && (a.zip b).all fun p => sameRec p.1 p.2
theorem all_step {α} {p : α → Bool} {l : List α} {i : Nat} {x : α} (h : l[i]? = some x) : (l.drop i).all p = (p x && (l.drop (i + 1)).all p) := by rw [drop_cons h]; rfl
theorem zip_at {α β} {a : List α} {b : List β} {i : Nat} {x : α} {y : β} (h : a[i]? = some x) (k : b[i]? = some y) : (a.zip b)[i]? = some (x, y) := by
  rw [List.getElem?_zip_eq_some]; exact ⟨h, k⟩
theorem all_end {α} {p : α → Bool} {l : List α} {i : Nat} (h : l.length ≤ i) : (l.drop i).all p = true := by rw [drop_nil h]; rfl
theorem seensOf_sz {m : Nat} : ∀ {l : List Str}, (∀ x ∈ l, x.length ≤ m) → ∀ x ∈ seensOf l, x.name.length ≤ m ∧ x.text.length ≤ m
  | [], _, x, h => by cases h
  | [a], h, x, hx => by
    have : x = oneSeen a [] := by simpa [seensOf] using hx
    subst this
    have := h a (by simp)
    refine ⟨?_, ?_⟩ <;> simp [oneSeen] <;> omega
  | a :: b :: l, h, x, hx => by
    rcases List.mem_cons.1 hx with hx | hx
    · subst hx
      have h1 := h a (by simp)
      have h2 := h b (by simp)
      unfold oneSeen; split
      · exact ⟨h1, Nat.zero_le _⟩
      · refine ⟨h1, ?_⟩; simp only [List.length_drop]; omega
    · exact seensOf_sz (fun y hy => h y (by simp [hy])) x hx
theorem seensOf_len : ∀ l : List Str, (seensOf l).length ≤ l.length
  | [] => Nat.le_refl _
  | [_] => Nat.le_refl _
  | a :: b :: l => by have := seensOf_len l; simp only [seensOf, List.length_cons]; omega
theorem partS_len {l : List Str} {m : Nat} (h : ∀ x ∈ l, x.length ≤ m) (i : Nat) : (partS l i).length ≤ m := by
  unfold partS
  rw [List.getD_eq_getElem?_getD]
  cases hl : l[i]? with
  | none => exact Nat.zero_le _
  | some x => exact h x (List.mem_of_getElem? hl)
theorem oneS_sz {s : Str} (h : s.length ≤ 1000) : SzR (oneS s) := by
  have h0 := allS_bd s
  have p0 := partS_len h0.1 0
  have p1 := partS_len h0.1 1
  have p2 := partS_len h0.1 2
  have h1 := allS_bd (partS (allS s).1 1)
  have hs := seensOf_sz h1.1
  have hl := seensOf_len (allS (partS (allS s).1 1)).1
  refine ⟨?_, ⟨?_, fun x hx => ?_⟩, parseS_sz _ (by omega)⟩
  · simp only [oneS]; omega
  · simp only [oneS]; omega
  · have := hs x hx; omega
theorem onesS_sz {s : Str} (h : s.length ≤ 1000) : SzL (onesS s) := by
  have h0 := allS_bd s
  refine ⟨?_, fun x hx => ?_⟩
  · simp only [onesS, List.length_map, List.length_drop]; omega
  · obtain ⟨y, hy, rfl⟩ := List.mem_map.1 hx
    have := h0.1 y (List.mem_of_mem_drop hy)
    exact oneS_sz (by omega)
theorem ones_step {l : List Str} {i : Nat} {x : Str} (h : l[i]? = some x) : (l.drop i).map oneS = oneS x :: (l.drop (i + 1)).map oneS := by rw [drop_cons h]; rfl
theorem partS_at {l : List Str} {i : Nat} {x : Str} (h : l[i]? = some x) : partS l i = x := getD_of h
theorem partS_out {l : List Str} {i : Nat} (h : l.length ≤ i) : partS l i = [] := by unfold partS; rw [List.getD_eq_getElem?_getD, List.getElem?_eq_none h]; rfl
theorem seensOf_next {l : List Str} {i : Nat} {a : Str} (ha : l[i]? = some a) : seensOf (l.drop i) = oneSeen a (partS l (i + 1)) :: seensOf (l.drop (i + 2)) := by
  rcases Nat.lt_or_ge (i + 1) l.length with h | h
  · obtain ⟨b, hb⟩ := some_of_lt h
    rw [partS_at hb]; exact seensOf_step ha hb
  · have := lt_of_some ha
    rw [partS_out h]; exact seensOf_last ha (by omega)
theorem pos_of_ne {s : Str} (h : s ≠ []) : 1 ≤ s.length := by cases s; exact absurd rfl h; simp
end Go.Stet
