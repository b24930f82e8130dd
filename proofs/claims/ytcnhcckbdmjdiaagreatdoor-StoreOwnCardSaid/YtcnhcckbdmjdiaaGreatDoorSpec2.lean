/- What the layers compute, in plain Lean, and laws about that. Each under the conditions that its own statement names. -/
import Derived.Test.YtcnhcckbdmjdiaaGreatDoorSpec1
set_option linter.all false
set_option linter.unusedSimpArgs false
set_option linter.unusedVariables false
namespace Go.Stet
open Go Go.Eng
structure File where
  name : Str
  text : Str
instance : Inhabited File := ⟨⟨[], []⟩⟩
def RFile : Rp File := ⟨2, fun _ x cs => cs = [.string (B x.name), .string (B x.text)], fun _ _ _ h => by subst h; rfl, fun _ _ _ _ _ h => h, fun _ _ _ h => by subst h; rfl⟩
theorem drop_cons {α} {l : List α} {i : Nat} {x : α} (h : l[i]? = some x) : l.drop i = x :: l.drop (i + 1) := by
  have hi : i < l.length := by
    rcases Nat.lt_or_ge i l.length with h1 | h1
    · exact h1
    · rw [List.getElem?_eq_none h1] at h; cases h
  rw [List.drop_eq_getElem_cons hi]
  congr 1
  rw [List.getElem?_eq_getElem hi] at h
  exact Option.some.inj h
theorem drop_nil {α} {l : List α} {i : Nat} (h : l.length ≤ i) : l.drop i = [] := List.drop_eq_nil_of_le h
theorem take_succ' {α} {l : List α} {i : Nat} {x : α} (h : l[i]? = some x) : l.take (i + 1) = l.take i ++ [x] := by
  rw [List.take_add_one, h]; rfl
theorem lt_of_some {α} {l : List α} {i : Nat} {x : α} (h : l[i]? = some x) : i < l.length := by
  rcases Nat.lt_or_ge i l.length with h1 | h1
  · exact h1
  · rw [List.getElem?_eq_none h1] at h; cases h
theorem at8_of {l : Str} {i : Nat} {x : UInt8} (h : l[i]? = some x) : at8 l i = (x.toNat : Int) := by
  unfold at8; rw [List.getD_eq_getElem?_getD, h]; rfl
theorem some_of_lt {α} {l : List α} {i : Nat} (h : i < l.length) : ∃ x, l[i]? = some x := ⟨_, List.getElem?_eq_getElem h⟩
def okB (c : Int) : Bool := decide ((97 ≤ c ∧ c ≤ 122) ∨ (48 ≤ c ∧ c ≤ 57) ∨ c = 45 ∨ c = 46)
def nameF (s : Str) : Bool := s.all fun b => okB (b.toNat : Int)
def nameS (s : Str) : Bool := nameF s && (decide (1 ≤ s.length) && decide (s.length ≤ 24))
theorem nameF_step (s : Str) (i : Nat) (h : i < s.length) : nameF (s.drop i) = (okB (at8 s i) && nameF (s.drop (i + 1))) := by
  obtain ⟨x, hx⟩ := some_of_lt h
  rw [drop_cons hx, at8_of hx]
  rfl
theorem nameF_end (s : Str) (i : Nat) (h : s.length ≤ i) : nameF (s.drop i) = true := by rw [drop_nil h]; rfl
def rightF : Option Str → List File → Bool
  | _, [] => true
  | p, x :: xs => (nameS x.name && decide (x.text.length ≤ 4000) && (match p with | none => true | some q => Op.bytesLess q x.name)) && rightF (some x.name) xs
theorem rightF_cons (p : Option Str) (x : File) (xs : List File) : rightF p (x :: xs) = ((nameS x.name && decide (x.text.length ≤ 4000) && (match p with | none => true | some q => Op.bytesLess q x.name)) && rightF (some x.name) xs) := by cases p <;> rfl
def rightS (l : List File) : Bool := rightF none l && decide (l.length ≤ 32)
def prevN (l : List File) (i : Nat) : Option Str := if i = 0 then none else (l[i - 1]?).map (·.name)
theorem rightF_no1 {l : List File} {i : Nat} {x : File} (p) (h : l[i]? = some x) (hn : nameS x.name = false ∨ 4000 < x.text.length) : rightF p (l.drop i) = false := by
  rw [drop_cons h, rightF_cons]
  rcases hn with hn | hn
  · rw [hn]; simp
  · rw [show decide (x.text.length ≤ 4000) = false by simpa using hn]; simp
theorem rightF_no2 {l : List File} {i : Nat} {x y : File} (h : l[i]? = some x) (h0 : 0 < i) (hy : l[i - 1]? = some y) (hn : Op.bytesLess y.name x.name = false) : rightF (prevN l i) (l.drop i) = false := by
  have : prevN l i = some y.name := by unfold prevN; rw [if_neg (by omega), hy]; rfl
  rw [this, drop_cons h, rightF_cons]; simp [hn]
theorem rightF_yes {l : List File} {i : Nat} {x : File} (h : l[i]? = some x) (h1 : nameS x.name = true) (h2 : x.text.length ≤ 4000) (h3 : ∀ y, 0 < i → l[i - 1]? = some y → Op.bytesLess y.name x.name = true) :
    rightF (prevN l i) (l.drop i) = rightF (prevN l (i + 1)) (l.drop (i + 1)) := by
  have e : prevN l (i + 1) = some x.name := by unfold prevN; rw [if_neg (by omega), Nat.add_sub_cancel, h]; rfl
  rw [e, drop_cons h, rightF_cons, h1, show decide (x.text.length ≤ 4000) = true by simpa using h2]
  by_cases h0 : i = 0
  · subst h0; simp [prevN]
  · obtain ⟨y, hy⟩ := some_of_lt (l := l) (i := i - 1) (by have := lt_of_some h; omega)
    have : prevN l i = some y.name := by unfold prevN; rw [if_neg h0, hy]; rfl
    rw [this]; simp [h3 y (by omega) hy]
theorem rightF_end {l : List File} {i : Nat} (p) (h : l.length ≤ i) : rightF p (l.drop i) = true := by rw [drop_nil h]; rfl
/-- the text of the first file of a name -/
def getF : List File → Str → Option Str
  | [], _ => none
  | x :: xs, n => if x.name = n then some x.text else getF xs n
def getFS (l : List File) (n : Str) : Str × Bool := ((getF l n).getD [], (getF l n).isSome)
def filesS (l : List File) : Str := (l.map fun f => putS f.name ++ putS f.text).flatten
def pairsS : List Str → List File
  | a :: b :: l => ⟨a, b⟩ :: pairsS l
  | _ => []
def parseS (s : Str) : List File × Int :=
  if (allS s).2 ≠ 0 then ([], (allS s).2)
  else if (allS s).1.length % 2 ≠ 0 ∨ rightS (pairsS (allS s).1) = false then ([], 5)
  else (pairsS (allS s).1, 0)
end Go.Stet
