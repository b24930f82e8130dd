/- What the layers wire and files compute, in plain Lean. -/
import Derived.Test.YtcnhcckbdmjdiaaGreatDoorEng7
import Derived.Lib.ItoaMem
set_option linter.all false
set_option linter.unusedSimpArgs false
set_option linter.unusedVariables false
namespace Go.Stet
open Go Go.Eng
def digitsS (n : Nat) : Str := Lib.decDigits n
def putS (s : Str) : Str := digitsS s.length ++ [58] ++ s ++ [44]
theorem digitsS_lo (n : Nat) (e : Int) (h : n < 10) (he : e.toNat = 48 + n) : digitsS n = [UInt8.ofNat e.toNat] := by
  unfold digitsS; rw [Lib.decDigits, dif_pos h, he]
theorem digitsS_hi (n : Nat) (e : Int) (h : ¬ n < 10) (he : e.toNat = 48 + n % 10) : digitsS n = digitsS (n / 10) ++ [UInt8.ofNat e.toNat] := by
  unfold digitsS; rw [Lib.decDigits, dif_neg h, he]
theorem itoa_digits (n : Nat) : Lib.itoa (n : Int) = digitsS n := Lib.itoa_nonneg n
theorem digitsS_len (n : Nat) (h : n ≤ 1000000000) : (digitsS n).length ≤ 10 := by
  have key : ∀ k n, n < 10 ^ k → 0 < k → (digitsS n).length ≤ k := by
    intro k
    induction k with
    | zero => intro n _ h0; omega
    | succ k ih =>
      intro n hn _
      unfold digitsS
      rw [Lib.decDigits]
      split
      · simp
      · rename_i h1
        have hk : 0 < k := by
          rcases Nat.eq_zero_or_pos k with hk | hk
          · subst hk; omega
          · exact hk
        have := ih (n / 10) (by rw [Nat.pow_succ] at hn; omega) hk
        unfold digitsS at this
        simp; omega
  exact key 10 n (by omega) (by omega)
def lenF (s : Str) (a : Nat) : Nat → Nat → Int → Int × Int × Int
  | 0, _, _ => (0, 0, 6)
  | k + 1, i, n =>
    if at8 s i = 58 ∧ a < i then (n, (i : Int) + 1, 0)
    else if ¬ (48 ≤ at8 s i ∧ at8 s i ≤ 57) ∨ (a < i ∧ at8 s a = 48) then (0, 0, 5)
    else if 999999 < 10 * n + at8 s i - 48 then (0, 0, 3)
    else lenF s a k (i + 1) (10 * n + at8 s i - 48)
def lenS (s : Str) (a : Nat) : Int × Int × Int := lenF s a (s.length - a) a 0
theorem lenF_step (s : Str) (a i : Nat) (n : Int) (h : i < s.length) : lenF s a (s.length - i) i n =
    if at8 s i = 58 ∧ a < i then (n, (i : Int) + 1, 0)
    else if ¬ (48 ≤ at8 s i ∧ at8 s i ≤ 57) ∨ (a < i ∧ at8 s a = 48) then (0, 0, 5)
    else if 999999 < 10 * n + at8 s i - 48 then (0, 0, 3)
    else lenF s a (s.length - (i + 1)) (i + 1) (10 * n + at8 s i - 48) := by
  rw [show s.length - i = (s.length - (i + 1)) + 1 by omega]
  rfl
theorem lenF_bd (s : Str) (a : Nat) : ∀ k i n, 0 ≤ n → n ≤ 999999 → i + k = s.length →
    0 ≤ (lenF s a k i n).1 ∧ (lenF s a k i n).1 ≤ 999999 ∧ 0 ≤ (lenF s a k i n).2.1 ∧ (lenF s a k i n).2.1 ≤ s.length ∧ ((lenF s a k i n).2.2 = 0 → (i : Int) < (lenF s a k i n).2.1) ∧ 0 ≤ (lenF s a k i n).2.2 ∧ (lenF s a k i n).2.2 ≤ 6 := by
  intro k
  induction k with
  | zero => intro i n h0 h1 hi; simp [lenF]
  | succ k ih =>
    intro i n h0 h1 hi
    unfold lenF
    split
    · simp; omega
    split
    · simp
    split
    · simp
    · have := at8_rng s i
      rename_i q1 q2 q3
      have q2' : 48 ≤ at8 s i ∧ at8 s i ≤ 57 := by
        by_cases h : 48 ≤ at8 s i ∧ at8 s i ≤ 57
        · exact h
        · exact absurd (Or.inl h) q2
      have := ih (i + 1) (10 * n + at8 s i - 48) (by omega) (by omega) (by omega)
      refine ⟨this.1, this.2.1, this.2.2.1, this.2.2.2.1, fun h => ?_, this.2.2.2.2.2⟩
      have := this.2.2.2.2.1 h
      omega
theorem lenS_bd (s : Str) (a : Nat) (h : a ≤ s.length) :
    0 ≤ (lenS s a).1 ∧ (lenS s a).1 ≤ 999999 ∧ 0 ≤ (lenS s a).2.1 ∧ (lenS s a).2.1 ≤ s.length ∧ ((lenS s a).2.2 = 0 → (a : Int) < (lenS s a).2.1) ∧ 0 ≤ (lenS s a).2.2 ∧ (lenS s a).2.2 ≤ 6 :=
  lenF_bd s a _ a 0 (by omega) (by omega) (by omega)
def getS (s : Str) (at_ top : Int) : Str × Int × Int :=
  if at_ < 0 ∨ (s.length : Int) < at_ then ([], 0, 1)
  else if (lenS s at_.toNat).2.2 ≠ 0 then ([], 0, (lenS s at_.toNat).2.2)
  else if 0 < (lenS s at_.toNat).1 ∧ top < (lenS s at_.toNat).1 then ([], 0, 3)
  else if (s.length : Int) - (lenS s at_.toNat).2.1 < (lenS s at_.toNat).1 + 1 then ([], 0, 6)
  else if at8 s ((lenS s at_.toNat).2.1 + (lenS s at_.toNat).1).toNat ≠ 44 then ([], 0, 5)
  else ((s.take ((lenS s at_.toNat).2.1 + (lenS s at_.toNat).1).toNat).drop (lenS s at_.toNat).2.1.toNat, (lenS s at_.toNat).2.1 + (lenS s at_.toNat).1 + 1, 0)
theorem getS_bd (s : Str) (at_ top : Int) : (getS s at_ top).1.length ≤ s.length ∧ 0 ≤ (getS s at_ top).2.1 ∧ (getS s at_ top).2.1 ≤ s.length ∧ ((getS s at_ top).2.2 = 0 → at_ < (getS s at_ top).2.1) ∧ 0 ≤ (getS s at_ top).2.2 ∧ (getS s at_ top).2.2 ≤ 6 := by
  unfold getS
  split
  · simp
  rename_i h0
  have hb := lenS_bd s at_.toNat (by omega)
  split
  · simp; omega
  split
  · simp
  split
  · simp
  split
  · simp
  · rename_i h1 _ _ _
    have h1' : (lenS s at_.toNat).2.2 = 0 := by
      by_cases h : (lenS s at_.toNat).2.2 = 0
      · exact h
      · exact absurd h h1
    have := hb.2.2.2.2.1 h1'
    simp
    omega
def allF (s : Str) : Nat → Int → List Str → List Str × Int
  | 0, _, acc => (acc, 0)
  | k + 1, at_, acc =>
    if at_ < s.length then
      if (getS s at_ 999999).2.2 ≠ 0 then ([], (getS s at_ 999999).2.2)
      else allF s k (getS s at_ 999999).2.1 (acc ++ [(getS s at_ 999999).1])
    else (acc, 0)
def allS (s : Str) : List Str × Int := allF s (s.length + 1) 0 []
theorem allF_next (s : Str) (at_ : Int) (acc : List Str) (k : Nat) (hk : s.length + 1 ≤ at_ + k) (h : allF s k at_ acc = allS s) (h1 : at_ < s.length) (h2 : (getS s at_ 999999).2.2 = 0) :
    ∃ k : Nat, s.length + 1 ≤ (getS s at_ 999999).2.1 + k ∧ allF s k (getS s at_ 999999).2.1 (acc ++ [(getS s at_ 999999).1]) = allS s := by
  obtain ⟨k, rfl⟩ : ∃ j, k = j + 1 := ⟨k - 1, by omega⟩
  have := (getS_bd s at_ 999999).2.2.2.1 h2
  refine ⟨k, by omega, ?_⟩
  rw [← h]
  conv => rhs; rw [allF]
  rw [if_pos h1, if_neg (by omega)]
theorem allF_err (s : Str) (at_ : Int) (acc : List Str) (k : Nat) (hk : s.length + 1 ≤ at_ + k) (h : allF s k at_ acc = allS s) (h1 : at_ < s.length) (h2 : (getS s at_ 999999).2.2 ≠ 0) : allS s = ([], (getS s at_ 999999).2.2) := by
  obtain ⟨k, rfl⟩ : ∃ j, k = j + 1 := ⟨k - 1, by omega⟩
  rw [← h, allF, if_pos h1, if_pos h2]
theorem allF_end (s : Str) (at_ : Int) (acc : List Str) (k : Nat) (_hk : s.length + 1 ≤ at_ + k) (h : allF s k at_ acc = allS s) (h1 : ¬ at_ < s.length) : allS s = (acc, 0) := by
  rw [← h]
  cases k with
  | zero => rfl
  | succ k => rw [allF, if_neg h1]
end Go.Stet
