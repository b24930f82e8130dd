/- What the layers compute, in plain Lean, and laws about that. Each under the conditions that its own statement names. -/
import Derived.Test.YtcnhcckbdmjdiaaGreatDoorSpec3
import Derived.Lib.Bytealg
set_option linter.all false
set_option linter.unusedSimpArgs false
set_option linter.unusedVariables false
namespace Go.Stet
open Go Go.Eng
/-- the letters that a name may bear -/
def lits : Str := [97, 98, 99, 100, 101, 102, 103, 104, 105, 106, 107, 108, 109, 110, 111, 112, 113, 114, 115, 116, 117, 118, 119, 120, 121, 122, 48, 49, 50, 51, 52, 53, 54, 55, 56, 57, 45, 46]
theorem lits_all : ((List.range 256).all fun n => decide (Lib.indexByte lits (n : Int).toNat.toUInt8 < 0) == !okB (n : Int)) = true := by decide +kernel
theorem lits_ok {c : Int} (h : 0 ≤ c ∧ c ≤ 255) : Lib.indexByte lits c.toNat.toUInt8 < 0 ↔ okB c = false := by
  have h1 := List.all_eq_true.1 lits_all c.toNat (List.mem_range.2 (by omega))
  have h2 : ((c.toNat : Nat) : Int) = c := by omega
  rw [h2, beq_iff_eq] at h1
  cases hk : okB c
  · rw [hk] at h1; simpa using h1
  · rw [hk] at h1; simpa using h1
/-- the place of a name in a list of files, as the search finds it -/
def bsF (l : List File) (n : Str) : Nat → Nat → Nat → Nat
  | 0, lo, _ => lo
  | k + 1, lo, hi =>
    if lo < hi then
      if Lib.compareBytes (l.getD ((lo + hi) / 2) default).name n < 0 then bsF l n k ((lo + hi) / 2 + 1) hi
      else bsF l n k lo ((lo + hi) / 2)
    else lo
def bsS (l : List File) (n : Str) : Nat := bsF l n (l.length + 1) 0 l.length
def placeS (l : List File) (n : Str) : Nat × Bool :=
  (bsS l n, decide (bsS l n < l.length) && decide (Lib.compareBytes (l.getD (bsS l n) default).name n = 0))
def fgetS (l : List File) (n : Str) : Str × Bool := if (placeS l n).2 then ((l.getD (placeS l n).1 default).text, true) else ([], false)
theorem getD_of {α} {l : List α} {i : Nat} {x d : α} (h : l[i]? = some x) : l.getD i d = x := by rw [List.getD_eq_getElem?_getD, h]; rfl
theorem bsF_step1 {l : List File} {n : Str} {lo hi : Nat} {x : File} (h : lo < hi) (hx : l[(lo + hi) / 2]? = some x) (hc : Lib.compareBytes x.name n < 0) (k : Nat) :
    bsF l n (k + 1) lo hi = bsF l n k ((lo + hi) / 2 + 1) hi := by
  rw [bsF, if_pos h, getD_of hx, if_pos hc]
theorem bsF_step2 {l : List File} {n : Str} {lo hi : Nat} {x : File} (h : lo < hi) (hx : l[(lo + hi) / 2]? = some x) (hc : ¬ Lib.compareBytes x.name n < 0) (k : Nat) :
    bsF l n (k + 1) lo hi = bsF l n k lo ((lo + hi) / 2) := by
  rw [bsF, if_pos h, getD_of hx, if_neg hc]
theorem bsF_end {l : List File} {n : Str} {lo hi : Nat} (h : ¬ lo < hi) (k : Nat) : bsF l n k lo hi = lo := by
  cases k
  · rfl
  · rw [bsF, if_neg h]
theorem placeS_lt {l : List File} {n : Str} (h : (placeS l n).2 = true) : (placeS l n).1 < l.length := by
  simp only [placeS, Bool.and_eq_true, decide_eq_true_eq] at h ⊢; exact h.1
end Go.Stet
