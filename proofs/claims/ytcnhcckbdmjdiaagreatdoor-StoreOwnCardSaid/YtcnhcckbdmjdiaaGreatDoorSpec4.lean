/- What the layers compute, in plain Lean, and laws about that. Each under the conditions that its own statement names. -/
import Derived.Test.YtcnhcckbdmjdiaaGreatDoorSpec2
import Derived.Lib.Bytealg
set_option linter.all false
set_option linter.unusedSimpArgs false
set_option linter.unusedVariables false
namespace Go.Stet
open Go Go.Eng
theorem putS_len (s : Str) (h : s.length ≤ 1000000000) : (putS s).length ≤ s.length + 12 := by
  have := digitsS_len s.length h
  simp only [putS, List.length_append, List.length_cons, List.length_nil]; omega
theorem filesS_step {l : List File} {i : Nat} {x : File} (h : l[i]? = some x) :
    filesS (l.drop i) = putS x.name ++ putS x.text ++ filesS (l.drop (i + 1)) := by
  rw [drop_cons h]; rfl
theorem filesS_nil : filesS [] = [] := rfl
/-- lists of files that are small -/
def SzF (l : List File) : Prop := l.length ≤ 1000 ∧ ∀ x ∈ l, x.name.length ≤ 1000 ∧ x.text.length ≤ 1000
theorem filesS_len {l : List File} (h : ∀ x ∈ l, x.name.length ≤ 1000 ∧ x.text.length ≤ 1000) : (filesS l).length ≤ l.length * 2024 := by
  induction l with
  | nil => exact Nat.le_refl _
  | cons a l ih =>
    have h1 := ih fun x hx => h x (List.mem_cons_of_mem _ hx)
    have h2 := h a (List.mem_cons_self ..)
    have h3 := putS_len a.name (by omega)
    have h4 := putS_len a.text (by omega)
    have : filesS (a :: l) = putS a.name ++ putS a.text ++ filesS l := rfl
    rw [this]; simp only [List.length_append, List.length_cons]; omega
theorem allF_bd (s : Str) : ∀ (k : Nat) (at_ : Int) (acc : List Str), (∀ x ∈ acc, x.length ≤ s.length) → 0 ≤ at_ → acc.length ≤ at_ → at_ ≤ s.length →
    (∀ x ∈ (allF s k at_ acc).1, x.length ≤ s.length) ∧ (allF s k at_ acc).1.length ≤ s.length ∧ 0 ≤ (allF s k at_ acc).2 ∧ (allF s k at_ acc).2 ≤ 7 := by
  intro k
  induction k with
  | zero => intro at_ acc h0 h1 h2 h3; refine ⟨h0, ?_, by simp [allF], by simp [allF]⟩; simp only [allF]; omega
  | succ k ih =>
    intro at_ acc h0 h1 h2 h3
    have hb := getS_bd s at_ 999999
    rw [allF]
    split
    · split
      · exact ⟨fun x hx => (by cases hx), Nat.zero_le _, by simp only []; omega, by simp only []; omega⟩
      · rename_i h4 h5
        have h5 : (getS s at_ 999999).2.2 = 0 := Decidable.byContradiction h5
        have h6 := hb.2.2.2.1 h5
        refine ih _ _ ?_ hb.2.1 ?_ hb.2.2.1
        · intro x hx
          rcases List.mem_append.1 hx with hx | hx
          · exact h0 x hx
          · rw [List.mem_singleton] at hx; subst hx; exact hb.1
        · simp only [List.length_append, List.length_cons, List.length_nil]; omega
    · refine ⟨h0, ?_, by simp, by simp⟩; simp only []; omega
theorem allS_bd (s : Str) : (∀ x ∈ (allS s).1, x.length ≤ s.length) ∧ (allS s).1.length ≤ s.length ∧ 0 ≤ (allS s).2 ∧ (allS s).2 ≤ 7 :=
  allF_bd s _ 0 [] (fun x hx => by cases hx) (Int.le_refl _) (by simp) (by simp)
theorem pairsS_step {l : List Str} {i : Nat} {a b : Str} (ha : l[i]? = some a) (hb : l[i + 1]? = some b) : pairsS (l.drop i) = ⟨a, b⟩ :: pairsS (l.drop (i + 2)) := by
  rw [drop_cons ha, drop_cons hb]; rfl
theorem pairsS_end {l : List Str} {i : Nat} (h : l.length ≤ i + 1) : pairsS (l.drop i) = [] := by
  have : (l.drop i).length ≤ 1 := by rw [List.length_drop]; omega
  match hm : l.drop i with
  | [] => rfl
  | [_] => rfl
  | _ :: _ :: _ => rw [hm] at this; simp at this
theorem pairsS_mem : ∀ {l : List Str} {x}, x ∈ pairsS l → x.name ∈ l ∧ x.text ∈ l
  | [], x, h => by cases h
  | [_], x, h => by cases h
  | a :: b :: l, x, h => by
    rcases List.mem_cons.1 h with h | h
    · subst h; simp
    · have := pairsS_mem h; exact ⟨List.mem_cons_of_mem _ (List.mem_cons_of_mem _ this.1), List.mem_cons_of_mem _ (List.mem_cons_of_mem _ this.2)⟩
theorem pairsS_len : ∀ (l : List Str), (pairsS l).length ≤ l.length
  | [] => Nat.le_refl _
  | [_] => Nat.zero_le _
  | a :: b :: l => by have := pairsS_len l; simp only [pairsS, List.length_cons]; omega
theorem allS_pairs_bd (s : Str) (h : s.length ≤ 1000) : SzF (pairsS (allS s).1) := by
  have hb := allS_bd s
  refine ⟨?_, fun x hx => ?_⟩
  · have := pairsS_len (allS s).1; omega
  · have := pairsS_mem hx; have h1 := hb.1 _ this.1; have h2 := hb.1 _ this.2; omega
theorem parseS_sz (s : Str) (h : s.length ≤ 1000) : SzF (parseS s).1 := by
  unfold parseS; split
  · exact ⟨Nat.zero_le _, fun x hx => by cases hx⟩
  · split
    · exact ⟨Nat.zero_le _, fun x hx => by cases hx⟩
    · exact allS_pairs_bd s h
theorem SzF.big {l : List File} (h : SzF l) : ∀ x ∈ l, x.name.length ≤ 1000000 ∧ x.text.length ≤ 1000000 := fun x hx => by have := h.2 x hx; omega
theorem getS_err (s : Str) (at_ top : Int) (h : (getS s at_ top).2.2 ≠ 0) : (getS s at_ top).1 = [] ∧ (getS s at_ top).2.1 = 0 := by
  unfold getS at h ⊢
  split
  · exact ⟨rfl, rfl⟩
  split
  · exact ⟨rfl, rfl⟩
  split
  · exact ⟨rfl, rfl⟩
  split
  · exact ⟨rfl, rfl⟩
  split
  · exact ⟨rfl, rfl⟩
  · rename_i h1 h2 h3 h4 h5
    rw [if_neg h1, if_neg h2, if_neg h3, if_neg h4, if_neg h5] at h
    exact absurd rfl h
end Go.Stet
namespace Go.Stet
open Go Go.Eng
/-- the letters that a name may bear -/
def lits : Str := [97, 98, 99, 100, 101, 102, 103, 104, 105, 106, 107, 108, 109, 110, 111, 112, 113, 114, 115, 116, 117, 118, 119, 120, 121, 122, 48, 49, 50, 51, 52, 53, 54, 55, 56, 57, 45, 46]
theorem lits_all : ((List.range 256).all fun n => decide (Lib.indexByte lits (n : Int).toNat.toUInt8 < 0) == !okB (n : Int)) = true := by decide +kernel
theorem lits_ok {c : Int} (h : 0 ≤ c ∧ c ≤ 255) : Lib.indexByte lits c.toNat.toUInt8 < 0 ↔ okB c = false := by
  have h1 := List.all_eq_true.1 lits_all c.toNat (List.mem_range.2 (by omega))
  have h2 : ((c.toNat : Nat) : Int) = c := by omega
  rw [h2, beq_iff_eq] at h1
  cases hk : okB c
  · rw [hk] at h1; simpa using h1
  · rw [hk] at h1; simpa using h1
/-- the place of a name in a list of files, as the search finds it -/
def bsF (l : List File) (n : Str) : Nat → Nat → Nat → Nat
  | 0, lo, _ => lo
  | k + 1, lo, hi =>
    if lo < hi then
      if Lib.compareBytes (l.getD ((lo + hi) / 2) default).name n < 0 then bsF l n k ((lo + hi) / 2 + 1) hi
      else bsF l n k lo ((lo + hi) / 2)
    else lo
def bsS (l : List File) (n : Str) : Nat := bsF l n (l.length + 1) 0 l.length
def placeS (l : List File) (n : Str) : Nat × Bool :=
  (bsS l n, decide (bsS l n < l.length) && decide (Lib.compareBytes (l.getD (bsS l n) default).name n = 0))
def fgetS (l : List File) (n : Str) : Str × Bool := if (placeS l n).2 then ((l.getD (placeS l n).1 default).text, true) else ([], false)
theorem getD_of {α} {l : List α} {i : Nat} {x d : α} (h : l[i]? = some x) : l.getD i d = x := by rw [List.getD_eq_getElem?_getD, h]; rfl
theorem bsF_step1 {l : List File} {n : Str} {lo hi : Nat} {x : File} (h : lo < hi) (hx : l[(lo + hi) / 2]? = some x) (hc : Lib.compareBytes x.name n < 0) (k : Nat) :
    bsF l n (k + 1) lo hi = bsF l n k ((lo + hi) / 2 + 1) hi := by
  rw [bsF, if_pos h, getD_of hx, if_pos hc]
theorem bsF_step2 {l : List File} {n : Str} {lo hi : Nat} {x : File} (h : lo < hi) (hx : l[(lo + hi) / 2]? = some x) (hc : ¬ Lib.compareBytes x.name n < 0) (k : Nat) :
    bsF l n (k + 1) lo hi = bsF l n k lo ((lo + hi) / 2) := by
  rw [bsF, if_pos h, getD_of hx, if_neg hc]
theorem bsF_end {l : List File} {n : Str} {lo hi : Nat} (h : ¬ lo < hi) (k : Nat) : bsF l n k lo hi = lo := by
  cases k
  · rfl
  · rw [bsF, if_neg h]
theorem placeS_lt {l : List File} {n : Str} (h : (placeS l n).2 = true) : (placeS l n).1 < l.length := by
  simp only [placeS, Bool.and_eq_true, decide_eq_true_eq] at h ⊢; exact h.1
end Go.Stet
