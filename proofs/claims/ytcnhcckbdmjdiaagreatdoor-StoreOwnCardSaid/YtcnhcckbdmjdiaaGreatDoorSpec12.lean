/- Maps of files: get, drop, put; the search for a place; what the references say of records. In plain Lean. -/
import Derived.Test.YtcnhcckbdmjdiaaGreatDoorSpec11
set_option linter.all false
set_option linter.unusedSimpArgs false
set_option linter.unusedVariables false
namespace Go.Stet
open Go Go.Eng
/-! ### the order of names -/
theorem bl_irrefl : ∀ a : Str, Op.bytesLess a a = false
  | [] => rfl
  | a :: l => by rw [Op.bytesLess, bl_irrefl l]; simp
theorem u8_lt {a b : UInt8} : a < b ↔ a.toNat < b.toNat := UInt8.lt_iff_toNat_lt
theorem bl_trans : ∀ {a b c : Str}, Op.bytesLess a b = true → Op.bytesLess b c = true → Op.bytesLess a c = true
  | [], _, [], _, h => by cases ‹Str› <;> simp [Op.bytesLess] at h
  | [], _, _ :: _, _, _ => rfl
  | _ :: _, [], _, h, _ => by simp [Op.bytesLess] at h
  | _ :: _, _ :: _, [], _, h => by simp [Op.bytesLess] at h
  | a :: x, b :: y, c :: z, h, k => by
    simp only [Op.bytesLess, Bool.or_eq_true, Bool.and_eq_true, decide_eq_true_eq, beq_iff_eq] at h k ⊢
    rcases h with h | ⟨rfl, h⟩
    · rcases k with k | ⟨rfl, k⟩
      · left; rw [u8_lt] at *; omega
      · exact .inl h
    · rcases k with k | ⟨rfl, k⟩
      · exact .inl k
      · exact .inr ⟨rfl, bl_trans h k⟩
theorem bl_total : ∀ (a b : Str), Op.bytesLess a b = true ∨ a = b ∨ Op.bytesLess b a = true
  | [], [] => .inr (.inl rfl)
  | [], _ :: _ => .inl rfl
  | _ :: _, [] => .inr (.inr rfl)
  | a :: x, b :: y => by
    simp only [Op.bytesLess, Bool.or_eq_true, Bool.and_eq_true, decide_eq_true_eq, beq_iff_eq]
    by_cases h1 : a = b
    · subst h1
      rcases bl_total x y with h | h | h
      · exact .inl (.inr ⟨rfl, h⟩)
      · subst h; exact .inr (.inl rfl)
      · exact .inr (.inr (.inr ⟨rfl, h⟩))
    · have : a.toNat ≠ b.toNat := fun h => h1 (UInt8.toNat_inj.1 h)
      rw [u8_lt, u8_lt]
      rcases Nat.lt_or_gt_of_ne this with h | h
      · exact .inl (.inl h)
      · exact .inr (.inr (.inl h))
theorem bl_ne {a b : Str} (h : Op.bytesLess a b = true) : a ≠ b := fun e => by rw [e, bl_irrefl] at h; cases h
theorem bl_asymm {a b : Str} (h : Op.bytesLess a b = true) : Op.bytesLess b a = false := by
  cases hb : Op.bytesLess b a with
  | false => rfl
  | true => have := bl_trans h hb; rw [bl_irrefl] at this; cases this
theorem cb_cases : ∀ (a b : Str), (Lib.compareBytes a b < 0 ↔ Op.bytesLess a b = true) ∧ (Lib.compareBytes a b = 0 ↔ a = b)
  | [], [] => by simp [Lib.compareBytes, Op.bytesLess]
  | [], _ :: _ => by simp [Lib.compareBytes, Op.bytesLess]
  | _ :: _, [] => by simp [Lib.compareBytes, Op.bytesLess]
  | a :: x, b :: y => by
    have ih := cb_cases x y
    simp only [Lib.compareBytes, Op.bytesLess, Bool.or_eq_true, Bool.and_eq_true, decide_eq_true_eq, beq_iff_eq]
    by_cases h1 : a < b
    · rw [if_pos h1]
      refine ⟨⟨fun _ => .inl h1, fun _ => by decide⟩, ⟨fun h => by simp at h, fun h => ?_⟩⟩
      injection h with h _; subst h; rw [u8_lt] at h1; omega
    · rw [if_neg h1]
      by_cases h2 : b < a
      · rw [if_pos h2]
        have hne : a ≠ b := fun h => by subst h; rw [u8_lt] at h2; omega
        refine ⟨⟨fun h => by simp at h, fun h => ?_⟩, ⟨fun h => by simp at h, fun h => ?_⟩⟩
        · rcases h with h | ⟨h, _⟩
          · exact absurd h h1
          · exact absurd h hne
        · injection h with h _; exact absurd h hne
      · rw [if_neg h2]
        have he : a = b := UInt8.toNat_inj.1 (by rw [u8_lt] at h1 h2; omega)
        subst he
        refine ⟨⟨fun h => .inr ⟨rfl, ih.1.1 h⟩, fun h => ?_⟩, ⟨fun h => by rw [ih.2.1 h], fun h => by injection h with _ h; exact ih.2.2 h⟩⟩
        rcases h with h | ⟨_, h⟩
        · exact absurd h h1
        · exact ih.1.2 h
theorem cb_lt (a b : Str) : Lib.compareBytes a b < 0 ↔ Op.bytesLess a b = true := (cb_cases a b).1
theorem cb_eq (a b : Str) : Lib.compareBytes a b = 0 ↔ a = b := (cb_cases a b).2
/-! ### maps -/
def Srt (l : List File) : Prop := l.Pairwise fun x y => Op.bytesLess x.name y.name = true
theorem rightF_iff : ∀ {l : List File} {p : Option Str}, rightF p l = true ↔ Srt l ∧ (∀ x ∈ l, nameS x.name = true ∧ x.text.length ≤ 4000) ∧ ∀ q, p = some q → ∀ x ∈ l, Op.bytesLess q x.name = true
  | [], p => by simp [rightF, Srt]
  | x :: l, p => by
    rw [rightF_cons, Bool.and_eq_true, rightF_iff (l := l) (p := some x.name), Bool.and_eq_true, Bool.and_eq_true, decide_eq_true_eq]
    unfold Srt
    rw [List.pairwise_cons]
    constructor
    · rintro ⟨⟨⟨h1, h2⟩, h3⟩, h4, h5, h6⟩
      refine ⟨⟨fun y hy => h6 _ rfl y hy, h4⟩, fun y hy => ?_, fun q hq y hy => ?_⟩
      · rcases List.mem_cons.1 hy with rfl | hy
        · exact ⟨h1, h2⟩
        · exact h5 y hy
      · subst hq
        simp only at h3
        rcases List.mem_cons.1 hy with rfl | hy
        · exact h3
        · exact bl_trans h3 (h6 _ rfl y hy)
    · rintro ⟨⟨h1, h2⟩, h3, h4⟩
      refine ⟨⟨h3 x (by simp), ?_⟩, h2, fun y hy => h3 y (by simp [hy]), fun q hq y hy => ?_⟩
      · cases p with
        | none => rfl
        | some q => exact h4 q rfl x (by simp)
      · injection hq with hq; subst hq; exact h1 y hy
theorem rightS_iff {l : List File} : rightS l = true ↔ Srt l ∧ (∀ x ∈ l, nameS x.name = true ∧ x.text.length ≤ 4000) ∧ l.length ≤ 32 := by
  rw [rightS, Bool.and_eq_true, rightF_iff, decide_eq_true_eq]
  constructor
  · rintro ⟨⟨h1, h2, _⟩, h3⟩; exact ⟨h1, h2, h3⟩
  · rintro ⟨h1, h2, h3⟩; exact ⟨⟨h1, h2, fun q hq => by cases hq⟩, h3⟩
theorem nameS_len {s : Str} (h : nameS s = true) : s.length ≤ 24 ∧ 1 ≤ s.length := by
  rw [nameS, Bool.and_eq_true, Bool.and_eq_true, decide_eq_true_eq, decide_eq_true_eq] at h
  exact ⟨h.2.2, h.2.1⟩
theorem rightS_big {l : List File} (h : rightS l = true) : ∀ x ∈ l, x.name.length ≤ 1000000 ∧ x.text.length ≤ 1000000 := fun x hx => by
  have := (rightS_iff.1 h).2.1 x hx
  have h2 := nameS_len this.1
  omega
theorem rightS_len {l : List File} (h : rightS l = true) : l.length ≤ 32 := (rightS_iff.1 h).2.2
theorem rightS_nil : rightS [] = true := rfl
theorem getF_yes {l : List File} {i : Nat} {x : File} {n : Str} (h : l[i]? = some x) (hn : x.name = n) : getF (l.drop i) n = some x.text := by rw [drop_cons h, getF, if_pos hn]
theorem getF_no {l : List File} {i : Nat} {x : File} {n : Str} (h : l[i]? = some x) (hn : ¬ x.name = n) : getF (l.drop i) n = getF (l.drop (i + 1)) n := by rw [drop_cons h, getF, if_neg hn]
theorem getF_end {l : List File} {i : Nat} {n : Str} (h : l.length ≤ i) : getF (l.drop i) n = none := by rw [drop_nil h]; rfl
theorem getF_none : ∀ {l : List File} {n : Str}, (∀ y ∈ l, y.name ≠ n) → getF l n = none
  | [], _, _ => rfl
  | x :: l, n, h => by rw [getF, if_neg (h x (by simp)), getF_none fun y hy => h y (by simp [hy])]
theorem getF_at : ∀ {l : List File} {n : Str} {p : Nat} {x : File}, l[p]? = some x → x.name = n → (∀ i, i < p → ∀ y, l[i]? = some y → y.name ≠ n) → getF l n = some x.text
  | [], _, _, _, h, _, _ => by simp at h
  | y :: l, n, 0, x, h, hn, _ => by
    simp at h; subst h
    rw [getF, if_pos hn]
  | y :: l, n, p + 1, x, h, hn, hb => by
    rw [getF, if_neg (hb 0 (by omega) y rfl)]
    exact getF_at (p := p) (by simpa using h) hn fun i hi z hz => hb (i + 1) (by omega) z (by simpa using hz)
theorem bsF_spec {l : List File} {n : Str} (hs : Srt l) : ∀ (k lo hi : Nat), hi - lo < k → lo ≤ hi → hi ≤ l.length →
    (∀ i x, i < lo → l[i]? = some x → Op.bytesLess x.name n = true) → (∀ i x, hi ≤ i → l[i]? = some x → Op.bytesLess x.name n = false) →
    (∀ i x, i < bsF l n k lo hi → l[i]? = some x → Op.bytesLess x.name n = true) ∧ (∀ i x, bsF l n k lo hi ≤ i → l[i]? = some x → Op.bytesLess x.name n = false) := by
  intro k
  induction k with
  | zero => intro lo hi h; omega
  | succ k ih =>
    intro lo hi hk hlo hhi hL hR
    rw [bsF]
    split
    · rename_i hlt
      obtain ⟨x, hx⟩ := some_of_lt (l := l) (i := (lo + hi) / 2) (by omega)
      rw [getD_of hx]
      have mono : ∀ (i j : Nat) (y z : File), i < j → l[i]? = some y → l[j]? = some z → Op.bytesLess y.name z.name = true := fun i j y z hij hy hz => by
        obtain ⟨h1, e1⟩ := List.getElem?_eq_some_iff.1 hy
        obtain ⟨h2, e2⟩ := List.getElem?_eq_some_iff.1 hz
        have := List.pairwise_iff_getElem.1 hs i j h1 h2 hij
        rwa [e1, e2] at this
      split
      · rename_i hc
        rw [cb_lt] at hc
        refine ih _ _ (by omega) (by omega) hhi (fun i y hi' hy => ?_) hR
        rcases Nat.lt_or_ge i ((lo + hi) / 2) with h | h
        · exact bl_trans (mono _ _ _ _ h hy hx) hc
        · have : i = (lo + hi) / 2 := by omega
          subst this; rw [hx] at hy; injection hy with hy; subst hy; exact hc
      · rename_i hc
        rw [cb_lt] at hc
        refine ih _ _ (by omega) (by omega) (by omega) hL (fun i y hi' hy => ?_)
        rcases Nat.lt_or_ge ((lo + hi) / 2) i with h | h
        · cases hb : Op.bytesLess y.name n with
          | false => rfl
          | true => exact absurd (bl_trans (mono _ _ _ _ h hx hy) hb) hc
        · have : i = (lo + hi) / 2 := by omega
          subst this; rw [hx] at hy; injection hy with hy; subst hy; exact bool_no hc
    · rename_i hlt
      have : lo = hi := by omega
      subst this
      exact ⟨hL, hR⟩
theorem bsF_le {l : List File} {n : Str} : ∀ (k lo hi : Nat), lo ≤ hi → bsF l n k lo hi ≤ hi := by
  intro k
  induction k with
  | zero => intro lo hi h; exact h
  | succ k ih =>
    intro lo hi h
    rw [bsF]
    split
    · split
      · exact ih _ _ (by omega)
      · exact Nat.le_trans (ih _ _ (by omega)) (by omega)
    · exact h
/-- the search finds what there is -/
theorem fget_eq {l : List File} (hs : Srt l) (n : Str) : fgetS l n = getFS l n := by
  obtain ⟨h1, h2⟩ := bsF_spec (n := n) hs (l.length + 1) 0 l.length (by omega) (Nat.zero_le _) (Nat.le_refl _) (fun i x hi => by omega) (fun i x hi hx => by have := lt_of_some hx; omega)
  have hp : (placeS l n).1 = bsF l n (l.length + 1) 0 l.length := rfl
  unfold fgetS
  by_cases hf : (placeS l n).2 = true
  · rw [if_pos hf]
    have hlt := placeS_lt hf
    obtain ⟨x, hx⟩ := some_of_lt hlt
    have hxn : x.name = n := by
      have : decide (Lib.compareBytes (l.getD (bsS l n) default).name n = 0) = true := by
        rw [placeS, Bool.and_eq_true] at hf; exact hf.2
      have hx' : l[bsS l n]? = some x := hx
      rw [getD_of hx', decide_eq_true_eq, cb_eq] at this
      exact this
    rw [getFS, getF_at hx hxn fun i hi y hy => bl_ne (h1 i y (by rw [← hp]; exact hi) hy), getD_of hx]; rfl
  · rw [if_neg hf]
    have : ∀ y ∈ l, y.name ≠ n := fun y hy e => by
      obtain ⟨i, hi⟩ := List.getElem?_of_mem hy
      rcases Nat.lt_or_ge i (bsF l n (l.length + 1) 0 l.length) with h | h
      · exact bl_ne (h1 i y h hi) e
      · have hi2 := lt_of_some hi
        have hlt : bsS l n < l.length := by have : bsS l n ≤ i := h; omega
        obtain ⟨x, hx⟩ := some_of_lt hlt
        have hxn := h2 _ x (Nat.le_refl _) hx
        apply hf
        rw [placeS, getD_of hx, decide_eq_true hlt, Bool.true_and, decide_eq_true_eq, cb_eq]
        rcases Nat.lt_or_ge (bsS l n) i with h3 | h3
        · exfalso
          obtain ⟨q1, e1⟩ := List.getElem?_eq_some_iff.1 hx
          obtain ⟨q2, e2⟩ := List.getElem?_eq_some_iff.1 hi
          have := List.pairwise_iff_getElem.1 hs _ _ q1 q2 h3
          rw [e1, e2, e] at this
          have hxn' : Op.bytesLess x.name n = false := hxn
          rw [hxn'] at this; cases this
        · have h4 : i = bsS l n := Nat.le_antisymm h3 h
          rw [h4, hx] at hi; injection hi with hi; rw [hi]; exact e
    rw [getFS, getF_none this]; rfl
/-! ### drop, put, map -/
def dropS (l : List File) (n : Str) : List File := l.filter fun x => decide (x.name ≠ n)
theorem dropS_step_in {l : List File} {i : Nat} {x : File} {n : Str} (h : l[i]? = some x) (hn : x.name ≠ n) : dropS (l.take (i + 1)) n = dropS (l.take i) n ++ [x] := by
  rw [dropS, take_succ' h, List.filter_append, List.filter_cons_of_pos (by simpa using hn)]; rfl
theorem dropS_step_out {l : List File} {i : Nat} {x : File} {n : Str} (h : l[i]? = some x) (hn : ¬ x.name ≠ n) : dropS (l.take (i + 1)) n = dropS (l.take i) n := by
  rw [dropS, take_succ' h, List.filter_append, List.filter_cons_of_neg (by simpa using hn), List.filter_nil, List.append_nil]; rfl
theorem dropS_len (l : List File) (n : Str) : (dropS l n).length ≤ l.length := List.length_filter_le _ _
theorem dropS_mem {l : List File} {n : Str} {x : File} (h : x ∈ dropS l n) : x ∈ l ∧ x.name ≠ n := by
  rw [dropS, List.mem_filter] at h; exact ⟨h.1, by simpa using h.2⟩
theorem dropS_srt {l : List File} {n : Str} (h : Srt l) : Srt (dropS l n) := h.filter _
def lessW (l : List File) (n : Str) : List File := l.takeWhile fun x => Op.bytesLess x.name n
theorem lessW_len (l : List File) (n : Str) : (lessW l n).length ≤ l.length := List.Sublist.length_le (List.takeWhile_sublist _)
theorem lessW_step {l : List File} {i : Nat} {x : File} {n : Str} (h : l[i]? = some x) (hn : Op.bytesLess x.name n = true) : lessW (l.drop i) n = x :: lessW (l.drop (i + 1)) n := by
  rw [drop_cons h, lessW, List.takeWhile_cons, if_pos hn]; rfl
theorem lessW_stop {l : List File} {i : Nat} {n : Str} (h : ∀ x, l[i]? = some x → Op.bytesLess x.name n = false) : lessW (l.drop i) n = [] := by
  rcases Nat.lt_or_ge i l.length with hi | hi
  · obtain ⟨x, hx⟩ := some_of_lt hi
    rw [drop_cons hx, lessW, List.takeWhile_cons, if_neg (by rw [h x hx]; simp)]
  · rw [drop_nil hi]; rfl
def putFS (l : List File) (f : File) : List File × Int :=
  if nameS f.name = false then ([], 2)
  else if 4000 < f.text.length ∨ (l.length ≤ (dropS l f.name).length ∧ 32 ≤ l.length) then ([], 3)
  else (lessW (dropS l f.name) f.name ++ [f] ++ (dropS l f.name).drop (lessW (dropS l f.name) f.name).length, 0)
theorem tw_mem {α : Type} {p : α → Bool} {x : α} : ∀ {r : List α}, x ∈ r.takeWhile p → p x = true
  | [], h => by cases h
  | y :: r, h => by
    rw [List.takeWhile_cons] at h
    cases hy : p y with
    | false => rw [hy] at h; cases h
    | true =>
      rw [hy] at h
      rcases List.mem_cons.1 h with rfl | h
      · exact hy
      · exact tw_mem h
theorem tw_drop {α : Type} (p : α → Bool) : ∀ r : List α, r.drop (r.takeWhile p).length = r.dropWhile p
  | [] => rfl
  | x :: r => by
    rw [List.takeWhile_cons, List.dropWhile_cons]
    cases p x
    · rfl
    · exact tw_drop p r
theorem putFS_right {l : List File} {f : File} (h : rightS l = true) (h0 : (putFS l f).2 = 0) : rightS (putFS l f).1 = true := by
  unfold putFS at h0 ⊢
  split at h0
  · cases h0
  rename_i hn
  rw [if_neg hn]
  split at h0
  · cases h0
  rename_i hb
  rw [if_neg hb]
  obtain ⟨s1, s2, s3⟩ := rightS_iff.1 h
  have hb1 := not_or.1 hb
  have hsr := dropS_srt (n := f.name) s1
  have hdl := dropS_len l f.name
  rw [rightS_iff]
  generalize hr : dropS l f.name = r at *
  have hmem : ∀ x ∈ r, x ∈ l ∧ x.name ≠ f.name := fun x hx => dropS_mem (by rw [hr]; exact hx)
  have e2 : r.drop (lessW r f.name).length = r.dropWhile fun x => Op.bytesLess x.name f.name := tw_drop _ r
  have e : lessW r f.name ++ r.drop (lessW r f.name).length = r := by
    rw [e2]; exact List.takeWhile_append_dropWhile
  have hgt : ∀ x ∈ r.drop (lessW r f.name).length, Op.bytesLess f.name x.name = true := by
    rw [e2]
    intro x hx
    cases hd : r.dropWhile (fun x => Op.bytesLess x.name f.name) with
    | nil => rw [hd] at hx; cases hx
    | cons y ys =>
      have hy : Op.bytesLess y.name f.name = false := by
        have := List.head?_dropWhile_not (fun x : File => Op.bytesLess x.name f.name) r
        rw [hd] at this; simpa using this
      have hym : y ∈ r := List.IsSuffix.mem (l₁ := r.dropWhile fun x => Op.bytesLess x.name f.name) (by rw [hd]; simp) (List.dropWhile_suffix _)
      have hfy : Op.bytesLess f.name y.name = true := by
        rcases bl_total f.name y.name with h | h | h
        · exact h
        · exact absurd h.symm (hmem y hym).2
        · rw [hy] at h; cases h
      rw [hd] at hx
      rcases List.mem_cons.1 hx with rfl | hx
      · exact hfy
      · have hs2 : Srt (y :: ys) := by rw [← hd]; exact hsr.sublist (List.dropWhile_sublist _)
        unfold Srt at hs2
        rw [List.pairwise_cons] at hs2
        exact bl_trans hfy (hs2.1 x hx)
  have hlt : ∀ x ∈ lessW r f.name, Op.bytesLess x.name f.name = true := fun x hx => by
    exact tw_mem (p := fun x : File => Op.bytesLess x.name f.name) hx
  have hsub : ∀ x ∈ lessW r f.name, x ∈ r := fun x hx => by rw [← e]; simp [hx]
  have hsub2 : ∀ x ∈ r.drop (lessW r f.name).length, x ∈ r := fun x hx => List.mem_of_mem_drop hx
  refine ⟨?_, fun x hx => ?_, ?_⟩
  · unfold Srt at hsr ⊢
    rw [← e] at hsr
    rw [List.pairwise_append] at hsr
    rw [List.append_assoc, List.pairwise_append]
    refine ⟨hsr.1, ?_, fun x hx y hy => ?_⟩
    · rw [List.singleton_append, List.pairwise_cons]
      exact ⟨hgt, hsr.2.1⟩
    · rcases List.mem_append.1 hy with hy | hy
      · rw [List.mem_singleton] at hy; subst hy; exact hlt x hx
      · exact bl_trans (hlt x hx) (hgt y hy)
  · rcases List.mem_append.1 hx with hx | hx
    · rcases List.mem_append.1 hx with hx | hx
      · exact s2 x (hmem x (hsub x hx)).1
      · rw [List.mem_singleton] at hx; subst hx
        exact ⟨by simpa using hn, by omega⟩
    · exact s2 x (hmem x (hsub2 x hx)).1
  · have hl : (lessW r f.name ++ [f] ++ r.drop (lessW r f.name).length).length = r.length + 1 := by
      have := congrArg List.length e
      simp only [List.length_append, List.length_singleton] at this ⊢
      omega
    rw [hl]
    have := hb1.2
    omega
def mapF (long : Int) : List File → List File → List File
  | m, [] => m
  | m, f :: fs => mapF long (if (putFS m ⟨f.name, f.text.take (min (f.text.length : Int) long).toNat⟩).2 = 0 then (putFS m ⟨f.name, f.text.take (min (f.text.length : Int) long).toNat⟩).1 else m) fs
def mapS (files : List File) (most long : Int) : List File := mapF long [] (files.take most.toNat)
theorem mapF_right (long : Int) : ∀ (fs m : List File), rightS m = true → rightS (mapF long m fs) = true
  | [], _, h => h
  | f :: fs, m, h => by
    rw [mapF]
    refine mapF_right long fs _ ?_
    split
    · rename_i h0; exact putFS_right h h0
    · exact h
theorem mapS_right (files : List File) (most long : Int) : rightS (mapS files most long) = true := mapF_right _ _ _ rightS_nil
theorem mapF_step {l : List File} {i n : Nat} {x : File} (h : l[i]? = some x) (hi : i < n) (long : Int) (m : List File) :
    mapF long m ((l.take n).drop i) = mapF long (if (putFS m ⟨x.name, x.text.take (min (x.text.length : Int) long).toNat⟩).2 = 0 then (putFS m ⟨x.name, x.text.take (min (x.text.length : Int) long).toNat⟩).1 else m) ((l.take n).drop (i + 1)) := by
  rw [drop_cons (l := l.take n) (i := i) (x := x) (by rw [List.getElem?_take, if_pos hi, h]), mapF]
theorem mapF_end {l : List File} {i n : Nat} (h : ¬ (i < l.length ∧ i < n)) (long : Int) (m : List File) : mapF long m ((l.take n).drop i) = m := by
  rw [drop_nil (by rw [List.length_take]; omega)]; rfl
/-! ### the references of records -/
def refOne (fs : List File) (n : Str) : Seen := ⟨n, (getFS fs n).2, (getFS fs n).1⟩
def refLookF (fs : List File) : List Str → List Str → List Seen
  | _, [] => []
  | pre, n :: ns => if n ∈ pre then refLookF fs (pre ++ [n]) ns else refOne fs n :: refLookF fs (pre ++ [n]) ns
def refLookS (fs : List File) (ns : List Str) : List Seen := refLookF fs [] ns
theorem refLook_in {fs : List File} {l : List Str} {i : Nat} {n : Str} (h : l[i]? = some n) (hn : n ∈ l.take i) : refLookF fs (l.take i) (l.drop i) = refLookF fs (l.take (i + 1)) (l.drop (i + 1)) := by
  rw [drop_cons h, refLookF, if_pos hn, take_succ' h]
theorem refLook_out {fs : List File} {l : List Str} {i : Nat} {n : Str} (h : l[i]? = some n) (hn : ¬ n ∈ l.take i) : refLookF fs (l.take i) (l.drop i) = refOne fs n :: refLookF fs (l.take (i + 1)) (l.drop (i + 1)) := by
  rw [drop_cons h, refLookF, if_neg hn, take_succ' h]
theorem look_eq {fs : List File} (hs : Srt fs) (ns : List Str) : rlookS fs ns = refLookS fs ns := by
  unfold rlookS refLookS
  have : ∀ (ns pre : List Str), rlookF fs pre ns = refLookF fs pre ns := by
    intro ns
    induction ns with
    | nil => intro pre; rfl
    | cons n ns ih => intro pre; rw [rlookF, refLookF, ih, lookOne, refOne, fget_eq hs]
  exact this ns []
theorem refLook_len (fs : List File) : ∀ (ns pre : List Str), (refLookF fs pre ns).length ≤ ns.length
  | [], _ => Nat.le_refl _
  | n :: ns, pre => by
    rw [refLookF]
    have := refLook_len fs ns (pre ++ [n])
    split <;> simp only [List.length_cons] <;> omega
def refFreshS (r : Rec) (fs : List File) : Bool := (r.seens.all fun x => decide (x.there = (getFS fs x.name).2) && decide (x.text = (getFS fs x.name).1)) && r.files.all fun f => (getFS fs f.name).2 && decide ((getFS fs f.name).1 = f.text)
theorem fresh_eq {fs : List File} (hs : Srt fs) (r : Rec) : freshS r fs = refFreshS r fs := by
  unfold freshS refFreshS
  congr 1
  · congr 1; funext x
    rw [sameSeen, lookOne, fget_eq hs, Bool.eq_iff_iff, decide_eq_true_eq, Bool.and_eq_true, decide_eq_true_eq, decide_eq_true_eq]
    exact ⟨fun h => ⟨h.2.1, h.2.2⟩, fun h => ⟨rfl, h.1, h.2⟩⟩
  · congr 1; funext f; rw [fget_eq hs]
theorem takeAny {l : List Str} {j : Nat} {n : Str} (h : l[j]? = some n) (m : Str) : (decide (m ∈ l.take (j + 1))) = (decide (m ∈ l.take j) || decide (n = m)) := by
  rw [take_succ' h, Bool.eq_iff_iff, decide_eq_true_eq, Bool.or_eq_true, decide_eq_true_eq, decide_eq_true_eq, List.mem_append, List.mem_singleton]
  exact or_congr Iff.rfl eq_comm
/-- one more, or another one -/
def refPutF (r : Rec) : Bool → List Rec → List Rec
  | b, [] => if b then [] else [r]
  | b, x :: l => if b = false ∧ x.name = r.name then r :: refPutF r true l else x :: refPutF r b l
theorem refPutF_true (r : Rec) : ∀ l, refPutF r true l = l
  | [] => rfl
  | x :: l => by rw [refPutF, if_neg (by simp), refPutF_true r l]
theorem rput_eq (l : List Rec) (r : Rec) : rputS l r = refPutF r false l := by
  have key : ∀ (l : List Rec) (k : Int), 0 ≤ k → (if k ≤ rplF r.name l k then l.set (rplF r.name l k - k).toNat r else l ++ [r]) = refPutF r false l := by
    intro l
    induction l with
    | nil => intro k hk; rw [rplF, if_neg (by omega)]; rfl
    | cons x l ih =>
      intro k hk
      by_cases hx : x.name = r.name
      · rw [show rplF r.name (x :: l) k = k from if_pos hx, if_pos (Int.le_refl _), show refPutF r false (x :: l) = r :: refPutF r true l from if_pos ⟨rfl, hx⟩, refPutF_true, Int.sub_self]; rfl
      · rw [show rplF r.name (x :: l) k = rplF r.name l (k + 1) from if_neg hx, show refPutF r false (x :: l) = x :: refPutF r false l from if_neg (fun h => hx h.2), ← ih (k + 1) (by omega)]
        have hb := rplF_rng r.name l (k + 1) (by omega)
        rcases hb with hb | hb
        · rw [hb, if_neg (by omega), if_neg (by omega)]; rfl
        · rw [if_pos (by omega), if_pos (by omega)]
          rw [show (rplF r.name l (k + 1) - k).toNat = (rplF r.name l (k + 1) - (k + 1)).toNat + 1 by omega]; rfl
  have := key l 0 (Int.le_refl _)
  rw [← this, rputS, rplS, Int.sub_zero]
theorem refPut_hit {l : List Rec} {i : Nat} {x r : Rec} (h : l[i]? = some x) (hx : x.name = r.name) : refPutF r false (l.drop i) = r :: refPutF r true (l.drop (i + 1)) := by rw [drop_cons h, refPutF, if_pos ⟨rfl, hx⟩]
theorem refPut_miss {l : List Rec} {i : Nat} {x r : Rec} {b : Bool} (h : l[i]? = some x) (hx : ¬ (b = false ∧ x.name = r.name)) : refPutF r b (l.drop i) = x :: refPutF r b (l.drop (i + 1)) := by rw [drop_cons h, refPutF, if_neg hx]
theorem refPut_end {l : List Rec} {i : Nat} (h : l.length ≤ i) (b : Bool) (r : Rec) : refPutF r b (l.drop i) = if b then [] else [r] := by rw [drop_nil h]; rfl
/-- the first of a name -/
def refFindF (n : Str) : List Rec → Rec × Bool
  | [] => (⟨[], [], []⟩, false)
  | x :: l => if x.name = n then (x, true) else refFindF n l
theorem rfind_eq (l : List Rec) (n : Str) : rfindS l n = refFindF n l := by
  have key : ∀ (l : List Rec) (k : Int), 0 ≤ k → (if rplF n l k < 0 then ((⟨[], [], []⟩ : Rec), false) else (l.getD (rplF n l k - k).toNat default, true)) = refFindF n l := by
    intro l
    induction l with
    | nil => intro k hk; rw [rplF, if_pos (by omega)]; rfl
    | cons x l ih =>
      intro k hk
      by_cases hx : x.name = n
      · rw [show rplF n (x :: l) k = k from if_pos hx, if_neg (by omega), show refFindF n (x :: l) = (x, true) from if_pos hx, Int.sub_self]; rfl
      · rw [show rplF n (x :: l) k = rplF n l (k + 1) from if_neg hx, show refFindF n (x :: l) = refFindF n l from if_neg hx, ← ih (k + 1) (by omega)]
        have hb := rplF_rng n l (k + 1) (by omega)
        rcases hb with hb | hb
        · rw [hb, if_pos (by omega), if_pos (by omega)]
        · rw [if_neg (by omega), if_neg (by omega)]
          rw [show (rplF n l (k + 1) - k).toNat = (rplF n l (k + 1) - (k + 1)).toNat + 1 by omega]; rfl
  have := key l 0 (Int.le_refl _)
  rw [← this, rfindS, rplS, Int.sub_zero]
theorem refFind_yes {l : List Rec} {i : Nat} {x : Rec} {n : Str} (h : l[i]? = some x) (hx : x.name = n) : refFindF n (l.drop i) = (x, true) := by rw [drop_cons h, refFindF, if_pos hx]
theorem refFind_no {l : List Rec} {i : Nat} {x : Rec} {n : Str} (h : l[i]? = some x) (hx : ¬ x.name = n) : refFindF n (l.drop i) = refFindF n (l.drop (i + 1)) := by rw [drop_cons h, refFindF, if_neg hx]
theorem refFind_end {l : List Rec} {i : Nat} {n : Str} (h : l.length ≤ i) : refFindF n (l.drop i) = (⟨[], [], []⟩, false) := by rw [drop_nil h]; rfl
/-- the law's names -/
def cutN (l : List Str) : List Str := (l.take 10).map fun s => s.take (min s.length 60)
theorem rput_sz {l : List Rec} {r : Rec} (h : SzL l) (hl : l.length ≤ 999) (hr : SzR r) : SzL (rputS l r) := by
  unfold rputS; split
  · exact ⟨by rw [List.length_set]; exact h.1, fun x hx => by
      rcases List.mem_or_eq_of_mem_set hx with hx | hx
      · exact h.2 x hx
      · rw [hx]; exact hr⟩
  · refine ⟨by simp; omega, fun x hx => ?_⟩
    rcases List.mem_append.1 hx with hx | hx
    · exact h.2 x hx
    · rw [List.mem_singleton] at hx; rw [hx]; exact hr
theorem rfind_sz {l : List Rec} {n : Str} (h : SzL l) : SzR (rfindS l n).1 := by
  rw [rfind_eq]
  have : ∀ l : List Rec, (∀ x ∈ l, SzR x) → SzR (refFindF n l).1 := by
    intro l
    induction l with
    | nil => intro _; exact ⟨Nat.zero_le _, ⟨Nat.zero_le _, fun x hx => by cases hx⟩, ⟨Nat.zero_le _, fun x hx => by cases hx⟩⟩
    | cons x l ih =>
      intro h
      rw [refFindF]; split
      · exact h x (by simp)
      · exact ih fun y hy => h y (by simp [hy])
  exact this l h.2
end Go.Stet
namespace Go.Stet
open Go Go.Eng
theorem SzL.both {l : List Rec} (h : SzL l) : ∀ x ∈ l, x.seens.length ≤ 1000000 ∧ x.files.length ≤ 1000000 := fun x hx => by have := (h.2 x hx).pieces; omega
theorem SzL.take {l : List Rec} (h : SzL l) (j : Nat) : SzL (l.take j) := ⟨by rw [List.length_take]; have := h.1; omega, fun x hx => h.2 x (List.mem_of_mem_take hx)⟩
theorem SzR.s {r : Rec} (h : SzR r) : r.seens.length ≤ 1000000 := by have := h.pieces; omega
theorem SzR.f {r : Rec} (h : SzR r) : r.files.length ≤ 1000000 := by have := h.pieces; omega
theorem cutS_six (l : List Rec) : (cutS l 6).length ≤ 6 := by simp only [cutS, List.length_map, List.length_take]; omega
theorem cutS_sz6 (l : List Rec) : SzL (cutS l 6) := cutS_sz l 6 (by omega)
theorem cutN_len (l : List Str) : (cutN l).length ≤ 10 := by simp only [cutN, List.length_map, List.length_take]; omega
theorem szl_one {r : Rec} (h : SzR r) : SzL [r] := ⟨by simp, fun x hx => by rw [List.mem_singleton] at hx; rw [hx]; exact h⟩
theorem refPut_sz {l : List Rec} {r : Rec} (h : SzL l) (hl : l.length ≤ 999) (hr : SzR r) : SzL (refPutF r false l) := by rw [← rput_eq]; exact rput_sz h hl hr
theorem refFind_sz {l : List Rec} {n : Str} (h : SzL l) : SzR (refFindF n l).1 := by rw [← rfind_eq]; exact rfind_sz h
end Go.Stet
