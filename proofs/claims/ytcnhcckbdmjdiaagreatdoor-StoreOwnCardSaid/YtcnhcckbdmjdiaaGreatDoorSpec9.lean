/- What the layers compute, in plain Lean, and laws about that. Each under the conditions that its own statement names. -/
import Derived.Test.YtcnhcckbdmjdiaaGreatDoorSpec8
set_option linter.all false
set_option linter.unusedSimpArgs false
set_option linter.unusedVariables false
namespace Go.Stet
open Go Go.Eng
/-- the first record of a name -/
def rplF (n : Str) : List Rec → Int → Int
  | [], _ => -1
  | x :: xs, i => if x.name = n then i else rplF n xs (i + 1)
def rplS (l : List Rec) (n : Str) : Int := rplF n l 0
theorem rplF_yes {l : List Rec} {i : Nat} {x : Rec} {n : Str} (h : l[i]? = some x) (hn : x.name = n) (k : Int) : rplF n (l.drop i) k = k := by rw [drop_cons h, rplF, if_pos hn]
theorem rplF_no {l : List Rec} {i : Nat} {x : Rec} {n : Str} (h : l[i]? = some x) (hn : ¬ x.name = n) (k : Int) : rplF n (l.drop i) k = rplF n (l.drop (i + 1)) (k + 1) := by rw [drop_cons h, rplF, if_neg hn]
theorem rplF_end {l : List Rec} {i : Nat} {n : Str} (h : l.length ≤ i) (k : Int) : rplF n (l.drop i) k = -1 := by rw [drop_nil h]; rfl
theorem rplF_rng (n : Str) : ∀ (l : List Rec) (k : Int), 0 ≤ k → rplF n l k = -1 ∨ (k ≤ rplF n l k ∧ rplF n l k < k + l.length)
  | [], _, _ => .inl rfl
  | x :: xs, k, hk => by
    rw [rplF]; split
    · right; simp only [List.length_cons]; omega
    · rcases rplF_rng n xs (k + 1) (by omega) with h | h
      · exact .inl h
      · right; simp only [List.length_cons]; omega
theorem rplS_rng (l : List Rec) (n : Str) : rplS l n = -1 ∨ (0 ≤ rplS l n ∧ rplS l n < l.length) := by
  have := rplF_rng n l 0 (Int.le_refl _)
  unfold rplS; omega
def rfindS (l : List Rec) (n : Str) : Rec × Bool := if rplS l n < 0 then (⟨[], [], []⟩, false) else (l.getD (rplS l n).toNat default, true)
def rputS (l : List Rec) (r : Rec) : List Rec := if 0 ≤ rplS l r.name then l.set (rplS l r.name).toNat r else l ++ [r]
/-- what a look now gives of a name -/
def lookOne (fs : List File) (n : Str) : Seen := ⟨n, (fgetS fs n).2, (fgetS fs n).1⟩
def sameSeen (x y : Seen) : Bool := decide (x.name = y.name ∧ x.there = y.there ∧ x.text = y.text)
def freshS (r : Rec) (fs : List File) : Bool := (r.seens.all fun x => sameSeen x (lookOne fs x.name)) && r.files.all fun f => (fgetS fs f.name).2 && decide ((fgetS fs f.name).1 = f.text)
def rlookF (fs : List File) : List Str → List Str → List Seen
  | _, [] => []
  | pre, n :: ns => if n ∈ pre then rlookF fs (pre ++ [n]) ns else lookOne fs n :: rlookF fs (pre ++ [n]) ns
def rlookS (fs : List File) (ns : List Str) : List Seen := rlookF fs [] ns
theorem rlook_in {fs : List File} {l : List Str} {i : Nat} {n : Str} (h : l[i]? = some n) (hn : n ∈ l.take i) : rlookF fs (l.take i) (l.drop i) = rlookF fs (l.take (i + 1)) (l.drop (i + 1)) := by
  rw [drop_cons h, rlookF, if_pos hn, take_succ' h]
theorem rlook_out {fs : List File} {l : List Str} {i : Nat} {n : Str} (h : l[i]? = some n) (hn : ¬ n ∈ l.take i) : rlookF fs (l.take i) (l.drop i) = lookOne fs n :: rlookF fs (l.take (i + 1)) (l.drop (i + 1)) := by
  rw [drop_cons h, rlookF, if_neg hn, take_succ' h]
/-! ### the law's cut -/
def cutSeen (x : Seen) : Seen := ⟨x.name.take (min x.name.length 120), x.there, x.text.take (min x.text.length 120)⟩
def cutFile (x : File) : File := ⟨x.name.take (min x.name.length 120), x.text.take (min x.text.length 120)⟩
def cutRec (r : Rec) : Rec := ⟨r.name.take (min r.name.length 120), (r.seens.take 8).map cutSeen, (r.files.take 6).map cutFile⟩
def cutS (l : List Rec) (n : Nat) : List Rec := (l.take n).map cutRec
theorem cutS_sz (l : List Rec) (n : Nat) (hn : n ≤ 1000) : SzL (cutS l n) := by
  refine ⟨by simp only [cutS, List.length_map, List.length_take]; omega, fun x hx => ?_⟩
  obtain ⟨y, _, rfl⟩ := List.mem_map.1 hx
  refine ⟨by simp only [cutRec, List.length_take]; omega, ⟨by simp only [cutRec, List.length_map, List.length_take]; omega, fun z hz => ?_⟩, ⟨by simp only [cutRec, List.length_map, List.length_take]; omega, fun z hz => ?_⟩⟩
  · obtain ⟨q, _, rfl⟩ := List.mem_map.1 hz
    simp only [cutSeen, List.length_take]; omega
  · obtain ⟨q, _, rfl⟩ := List.mem_map.1 hz
    simp only [cutFile, List.length_take]; omega
theorem map_take_step {α β} {f : α → β} {l : List α} {i n : Nat} {x : α} (h : l[i]? = some x) (hi : i < n) : ((l.take n).take (i + 1)).map f = ((l.take n).take i).map f ++ [f x] := by
  rw [take_succ' (l := l.take n) (i := i) (x := x) (by rw [List.getElem?_take, if_pos hi, h])]; simp
theorem map_take_end {α β} {f : α → β} {l : List α} {i n : Nat} (h : ¬ (i < l.length ∧ i < n)) : ((l.take n).take i).map f = (l.take n).map f := by
  rw [List.take_of_length_le (by rw [List.length_take]; omega)]
instance (l : List File) : Decidable (SzF l) := inferInstanceAs (Decidable (_ ∧ _))
instance (l : List Seen) : Decidable (SzS l) := inferInstanceAs (Decidable (_ ∧ _))
instance (r : Rec) : Decidable (SzR r) := inferInstanceAs (Decidable (_ ∧ _ ∧ _))
instance (l : List Rec) : Decidable (SzL l) := inferInstanceAs (Decidable (_ ∧ _))
end Go.Stet
