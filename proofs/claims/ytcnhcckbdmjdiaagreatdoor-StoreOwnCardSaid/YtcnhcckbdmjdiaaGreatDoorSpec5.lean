/- What the layers compute, in plain Lean, and laws about that. Each under the conditions that its own statement names. -/
import Derived.Test.YtcnhcckbdmjdiaaGreatDoorSpec4
import Derived.Test.YtcnhcckbdmjdiaaGreatDoorEng12
set_option linter.all false
set_option linter.unusedSimpArgs false
set_option linter.unusedVariables false
namespace Go.Stet
open Go Go.Eng
structure Seen where
  name : Str
  there : Bool
  text : Str
structure Rec where
  name : Str
  seens : List Seen
  files : List File
instance : DecidableEq Seen := fun a b => by
  cases a; cases b; simp only [Seen.mk.injEq]; exact inferInstance
instance : Inhabited Seen := ⟨⟨[], false, []⟩⟩
instance : Inhabited Rec := ⟨⟨[], [], []⟩⟩
instance : DecidableEq File := fun a b => by
  cases a; cases b; simp only [File.mk.injEq]; exact inferInstance
def RSeen : Rp Seen := ⟨3, fun _ x cs => cs = [.string (B x.name), .bool x.there, .string (B x.text)], fun _ _ _ h => by subst h; rfl, fun _ _ _ _ _ h => h, fun _ _ _ h => by subst h; rfl⟩
abbrev RSeen2 := RSeen
def RRec : Rp Rec := ⟨3, fun h x cs => ∃ a c a2 c2, cs = [.string (B x.name), .slice a x.seens.length c, .slice a2 x.files.length c2] ∧ Sl RSeen h x.seens a c ∧ Sl RFile h x.files a2 c2,
  fun _ _ _ ⟨_, _, _, _, h, _⟩ => by subst h; rfl, fun _ _ _ _ l ⟨a, c, a2, c2, h1, h2, h3⟩ => ⟨a, c, a2, c2, h1, h2.mono l, h3.mono l⟩, fun _ _ _ ⟨_, _, _, _, h, _⟩ => by subst h; rfl⟩
abbrev RRec2 := RRec
def SzS (l : List Seen) : Prop := l.length ≤ 1000 ∧ ∀ x ∈ l, x.name.length ≤ 1000 ∧ x.text.length ≤ 1000
def SzR (r : Rec) : Prop := r.name.length ≤ 1000 ∧ SzS r.seens ∧ SzF r.files
def SzL (l : List Rec) : Prop := l.length ≤ 1000 ∧ ∀ x ∈ l, SzR x
/-! ### text -/
def markS (x : Seen) : Str := if x.there then 43 :: x.text else [45]
def seenS (x : Seen) : Str := putS x.name ++ putS (markS x)
def seensS (l : List Seen) : Str := (l.map seenS).flatten
def textS (r : Rec) : Str := putS r.name ++ putS (seensS r.seens) ++ putS (filesS r.files)
theorem markS_len (x : Seen) : (markS x).length ≤ x.text.length + 1 := by unfold markS; split <;> simp
theorem seenS_len {x : Seen} (h : x.name.length ≤ 1000 ∧ x.text.length ≤ 1000) : (seenS x).length ≤ 2025 := by
  have h1 := markS_len x
  have h2 := putS_len x.name (by omega)
  have h3 := putS_len (markS x) (by omega)
  simp only [seenS, List.length_append]; omega
theorem seensS_step {l : List Seen} {i : Nat} {x : Seen} (h : l[i]? = some x) : seensS (l.drop i) = seenS x ++ seensS (l.drop (i + 1)) := by rw [drop_cons h]; rfl
theorem seensS_len : ∀ {l : List Seen}, (∀ x ∈ l, x.name.length ≤ 1000 ∧ x.text.length ≤ 1000) → (seensS l).length ≤ l.length * 2025
  | [], _ => Nat.le_refl _
  | a :: l, h => by
    have h1 := seensS_len (l := l) fun x hx => h x (List.mem_cons_of_mem _ hx)
    have h2 := seenS_len (h a (List.mem_cons_self ..))
    have e : seensS (a :: l) = seenS a ++ seensS l := rfl
    rw [e]; simp only [List.length_append, List.length_cons]; omega
theorem textS_len {r : Rec} (h : SzR r) : (textS r).length ≤ 5000000 := by
  have h1 := seensS_len h.2.1.2
  have h2 := filesS_len h.2.2.2
  have h3 := h.2.1.1
  have h4 := h.2.2.1
  have h5 := h.1
  have e1 := putS_len r.name (by omega)
  have e2 := putS_len (seensS r.seens) (by omega)
  have e3 := putS_len (filesS r.files) (by omega)
  simp only [textS, List.length_append]; omega
/-! ### may -/
def okSeen (x : Seen) : Bool := decide (1 ≤ x.name.length) && decide (x.name.length ≤ 100) && decide (x.text.length ≤ 4000) && (x.there || decide (x.text = []))
def dupS (n : Str) (l : List Seen) : Bool := l.any fun x => decide (x.name = n)
def mayF (pre : List Seen) : List Seen → Bool
  | [] => true
  | x :: xs => (!dupS x.name pre && okSeen x) && mayF (pre ++ [x]) xs
def mayS (r : Rec) : Bool := mayF [] r.seens && (decide (1 ≤ r.name.length) && decide (r.name.length ≤ 60) && decide (r.seens.length ≤ 40) && rightS r.files)
theorem mayF_no {l : List Seen} {i : Nat} {x : Seen} (h : l[i]? = some x) (hn : dupS x.name (l.take i) = true ∨ okSeen x = false) : mayF (l.take i) (l.drop i) = false := by
  rw [drop_cons h, mayF]; rcases hn with hn | hn <;> simp [hn]
theorem mayF_yes {l : List Seen} {i : Nat} {x : Seen} (h : l[i]? = some x) (h1 : dupS x.name (l.take i) = false) (h2 : okSeen x = true) : mayF (l.take i) (l.drop i) = mayF (l.take (i + 1)) (l.drop (i + 1)) := by
  rw [drop_cons h, mayF, h1, h2, take_succ' h]; rfl
theorem mayF_end {l : List Seen} {i : Nat} (h : l.length ≤ i) : mayF (l.take i) (l.drop i) = true := by rw [drop_nil h]; rfl
theorem dupS_succ {l : List Seen} {i : Nat} {x : Seen} (h : l[i]? = some x) (n : Str) : dupS n (l.take (i + 1)) = (dupS n (l.take i) || decide (x.name = n)) := by
  rw [take_succ' h]; simp [dupS]
theorem dupS_zero (n : Str) (l : List Seen) : dupS n (l.take 0) = false := by rw [List.take_zero]; rfl
theorem dupS_yes {l : List Seen} {i j : Nat} {x : Seen} (h : l[j]? = some x) (hj : j < i) {n : Str} (hn : x.name = n) : dupS n (l.take i) = true := by
  unfold dupS; rw [List.any_eq_true]
  exact ⟨x, List.mem_iff_getElem?.2 ⟨j, by rw [List.getElem?_take, if_pos hj, h]⟩, by simp [hn]⟩
/-! ### Right -/
def dupR (n : Str) (l : List Rec) : Bool := l.any fun x => decide (x.name = n)
def rgtF (pre : List Rec) : List Rec → Bool
  | [] => true
  | x :: xs => (!dupR x.name pre && mayS x) && rgtF (pre ++ [x]) xs
def rgtS (l : List Rec) : Bool := rgtF [] l && decide (l.length ≤ 12)
theorem rgtF_no {l : List Rec} {i : Nat} {x : Rec} (h : l[i]? = some x) (hn : dupR x.name (l.take i) = true ∨ mayS x = false) : rgtF (l.take i) (l.drop i) = false := by
  rw [drop_cons h, rgtF]; rcases hn with hn | hn <;> simp [hn]
theorem rgtF_yes {l : List Rec} {i : Nat} {x : Rec} (h : l[i]? = some x) (h1 : dupR x.name (l.take i) = false) (h2 : mayS x = true) : rgtF (l.take i) (l.drop i) = rgtF (l.take (i + 1)) (l.drop (i + 1)) := by
  rw [drop_cons h, rgtF, h1, h2, take_succ' h]; rfl
theorem rgtF_end {l : List Rec} {i : Nat} (h : l.length ≤ i) : rgtF (l.take i) (l.drop i) = true := by rw [drop_nil h]; rfl
theorem dupR_succ {l : List Rec} {i : Nat} {x : Rec} (h : l[i]? = some x) (n : Str) : dupR n (l.take (i + 1)) = (dupR n (l.take i) || decide (x.name = n)) := by
  rw [take_succ' h]; simp [dupR]
theorem dupR_zero (n : Str) (l : List Rec) : dupR n (l.take 0) = false := by rw [List.take_zero]; rfl
theorem dupR_yes {l : List Rec} {i j : Nat} {x : Rec} (h : l[j]? = some x) (hj : j < i) {n : Str} (hn : x.name = n) : dupR n (l.take i) = true := by
  unfold dupR; rw [List.any_eq_true]
  exact ⟨x, List.mem_iff_getElem?.2 ⟨j, by rw [List.getElem?_take, if_pos hj, h]⟩, by simp [hn]⟩
/-! ### Encode -/
def recsS (l : List Rec) : Str := (l.map fun r => putS (textS r)).flatten
def tag : Str := [115, 116, 101, 116, 49]
def encS (l : List Rec) : Str × Int := if rgtS l then (putS tag ++ recsS l, 0) else ([], 5)
theorem recsS_step {l : List Rec} {i : Nat} {x : Rec} (h : l[i]? = some x) : recsS (l.drop i) = putS (textS x) ++ recsS (l.drop (i + 1)) := by rw [drop_cons h]; rfl
/-! ### a count -/
def cnt (b : Bool) : Int := if b then 1 else 0
theorem cnt_rng (b : Bool) : 0 ≤ cnt b ∧ cnt b ≤ 1 := by cases b <;> decide
/-! ### reading -/
def partS (l : List Str) (i : Nat) : Str := l.getD i []
def oneSeen (n m : Str) : Seen := if m = [45] ∨ m = [] then ⟨n, false, []⟩ else ⟨n, true, m.drop 1⟩
/-- names and marks two by two; a last name alone has the mark '' -/
def seensOf : List Str → List Seen
  | a :: b :: l => oneSeen a b :: seensOf l
  | [a] => [oneSeen a []]
  | [] => []
def oneS (s : Str) : Rec := ⟨partS (allS s).1 0, seensOf (allS (partS (allS s).1 1)).1, (parseS (partS (allS s).1 2)).1⟩
def onesS (s : Str) : List Rec := ((allS s).1.drop 1).map oneS
def decRef (s : Str) : List Rec × Int := if (encS (onesS s)).2 ≠ 0 ∨ (encS (onesS s)).1 ≠ s then ([], 5) else (onesS s, 0)
theorem seensOf_step {l : List Str} {i : Nat} {a b : Str} (ha : l[i]? = some a) (hb : l[i + 1]? = some b) : seensOf (l.drop i) = oneSeen a b :: seensOf (l.drop (i + 2)) := by
  rw [drop_cons ha, drop_cons hb]; rfl
theorem seensOf_last {l : List Str} {i : Nat} {a : Str} (ha : l[i]? = some a) (hb : l.length = i + 1) : seensOf (l.drop i) = oneSeen a [] :: seensOf (l.drop (i + 2)) := by
  rw [drop_cons ha, drop_nil (by omega), drop_nil (by omega)]; rfl
end Go.Stet
