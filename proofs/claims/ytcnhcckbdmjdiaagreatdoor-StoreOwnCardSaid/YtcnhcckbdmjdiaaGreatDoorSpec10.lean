/- Reading gives back what was written: lengths, texts, lists of texts, files, records. In plain Lean. -/
import Derived.Test.YtcnhcckbdmjdiaaGreatDoorSpec9
set_option linter.all false
set_option linter.unusedSimpArgs false
set_option linter.unusedVariables false
namespace Go.Stet
open Go Go.Eng
theorem digitsS_small {n : Nat} (h : n < 10) : digitsS n = [UInt8.ofNat (48 + n)] := by unfold digitsS; rw [Lib.decDigits, dif_pos h]
theorem digitsS_big {n : Nat} (h : ¬ n < 10) : digitsS n = digitsS (n / 10) ++ [UInt8.ofNat (48 + n % 10)] := by unfold digitsS; rw [Lib.decDigits, dif_neg h]
theorem digitsS_pos (n : Nat) : 1 ≤ (digitsS n).length := by
  by_cases h : n < 10
  · rw [digitsS_small h]; exact Nat.le_refl _
  · rw [digitsS_big h]; simp
theorem digitsS_head (n : Nat) (h : 1 ≤ n) : ∃ x : UInt8, (digitsS n)[0]? = some x ∧ x.toNat ≠ 48 := by
  induction n using Nat.strongRecOn with
  | _ n ih =>
    by_cases h1 : n < 10
    · rw [digitsS_small h1]
      exact ⟨_, rfl, by rw [UInt8.toNat_ofNat']; omega⟩
    · obtain ⟨x, hx, hn⟩ := ih (n / 10) (by omega) (by omega)
      refine ⟨x, ?_, hn⟩
      rw [digitsS_big h1, List.getElem?_append_left (digitsS_pos _)]; exact hx
/-- a part of a text at a place -/
def Here (s : Str) (a : Nat) (t : Str) : Prop := ∀ j x, t[j]? = some x → s[a + j]? = some x
theorem Here.at8 {s : Str} {a : Nat} {t : Str} (h : Here s a t) {j : Nat} {x : UInt8} (hj : t[j]? = some x) : at8 s (a + j) = (x.toNat : Int) := at8_of (h j x hj)
theorem Here.left {s : Str} {a : Nat} {t u : Str} (h : Here s a (t ++ u)) : Here s a t := fun j x hj => h j x (by rw [List.getElem?_append_left (lt_of_some hj)]; exact hj)
theorem Here.right {s : Str} {a : Nat} {t u : Str} (h : Here s a (t ++ u)) : Here s (a + t.length) u := fun j x hj => by
  have := h (t.length + j) x (by rw [List.getElem?_append_right (by omega)]; rw [Nat.add_sub_cancel_left]; exact hj)
  rwa [← Nat.add_assoc] at this
theorem Here.mid (p t u : Str) : Here (p ++ t ++ u) p.length t := fun j x hj => by
  rw [List.append_assoc, List.getElem?_append_right (by omega), Nat.add_sub_cancel_left, List.getElem?_append_left (lt_of_some hj)]; exact hj
theorem Here.len {s : Str} {a : Nat} {t : Str} (h : Here s a t) (hp : 1 ≤ t.length) : a + t.length ≤ s.length := by
  obtain ⟨x, hx⟩ := some_of_lt (l := t) (i := t.length - 1) (by omega)
  have := lt_of_some (h _ x hx)
  omega
theorem Here.take {s : Str} {a : Nat} {t : Str} (h : Here s a t) (_hl : a + t.length ≤ s.length) : (s.take (a + t.length)).drop a = t := by
  apply List.ext_getElem?
  intro j
  rw [List.getElem?_drop, List.getElem?_take]
  split
  · rename_i hj
    obtain ⟨x, hx⟩ := some_of_lt (l := t) (i := j) (by omega)
    rw [h j x hx, hx]
  · rename_i hj
    rw [List.getElem?_eq_none (by omega)]
theorem lenF_digits (s : Str) (a : Nat) (n : Nat) (hn : n ≤ 999999) (h : Here s a (digitsS n)) :
    lenF s a (s.length - a) a 0 = lenF s a (s.length - (a + (digitsS n).length)) (a + (digitsS n).length) (n : Int) := by
  induction n using Nat.strongRecOn with
  | _ n ih =>
    have hl := h.len (digitsS_pos n)
    by_cases h1 : n < 10
    · rw [digitsS_small h1] at h hl ⊢
      have e := h.at8 (j := 0) rfl
      rw [Nat.add_zero, UInt8.toNat_ofNat'] at e
      simp only [List.length_singleton] at hl ⊢
      rw [lenF_step s a a 0 (by omega), if_neg (by omega), if_neg (by omega), if_neg (by omega)]
      congr 1; omega
    · rw [digitsS_big h1] at h hl ⊢
      have hr := ih (n / 10) (by omega) (by omega) h.left
      rw [hr]
      have e := h.right.at8 (j := 0) rfl
      rw [Nat.add_zero, UInt8.toNat_ofNat'] at e
      obtain ⟨x, hx, hx2⟩ := digitsS_head (n / 10) (by omega)
      have e0 := h.left.at8 hx
      rw [Nat.add_zero] at e0
      have hp := digitsS_pos (n / 10)
      simp only [List.length_append, List.length_singleton] at hl ⊢
      rw [lenF_step s a _ _ (by omega), if_neg (by omega), if_neg (by omega), if_neg (by omega)]
      rw [Nat.add_assoc]
      congr 1; omega
theorem lenS_put (s : Str) (a : Nat) (n : Nat) (hn : n ≤ 999999) (h : Here s a (digitsS n ++ [58])) : lenS s a = ((n : Int), (a : Int) + (digitsS n).length + 1, 0) := by
  have hl := h.len (by simp)
  have e := h.right.at8 (j := 0) rfl
  rw [Nat.add_zero] at e
  have hp := digitsS_pos n
  simp only [List.length_append, List.length_singleton] at hl
  rw [lenS, lenF_digits s a n hn h.left, lenF_step _ _ _ _ (by omega), if_pos ⟨e, by omega⟩]
  congr 2
theorem getS_put (s : Str) (a : Nat) (x : Str) (hx : x.length ≤ 999999) (h : Here s a (putS x)) : getS s a 999999 = (x, (a : Int) + (putS x).length, 0) := by
  have h1 : Here s a (digitsS x.length ++ [58]) := h.left.left
  have e := lenS_put s a x.length hx h1
  have h2 := h.left.right
  have h3 := h.right
  have hl := h.len (by simp [putS]; omega)
  have e44 := h3.at8 (j := 0) rfl
  have el : (putS x).length = (digitsS x.length).length + 1 + x.length + 1 := by simp [putS]; omega
  simp only [Nat.add_zero, List.length_append, List.length_singleton] at e44 h2
  have q1 : ((a : Int) + (digitsS x.length).length + 1 + x.length).toNat = a + ((digitsS x.length).length + 1 + x.length) := by omega
  have q2 : ((a : Int) + (digitsS x.length).length + 1).toNat = a + ((digitsS x.length).length + 1) := by omega
  rw [getS, if_neg (by omega), Int.toNat_natCast, e]
  simp only
  rw [if_neg (by omega), if_neg (by omega), if_neg (by omega), q1, e44, if_neg (by decide), q2]
  have ht := h2.take (by omega)
  rw [show a + ((digitsS x.length).length + 1) + x.length = a + ((digitsS x.length).length + 1 + x.length) by omega] at ht
  rw [ht, el]
  congr 2; omega
/-- many texts put, one behind the other -/
def putsS (l : List Str) : Str := (l.map putS).flatten
theorem putsS_cons (x : Str) (l : List Str) : putsS (x :: l) = putS x ++ putsS l := rfl
theorem putS_pos (x : Str) : 1 ≤ (putS x).length := by simp [putS]; omega
theorem putsS_len (l : List Str) : l.length ≤ (putsS l).length := by
  induction l with
  | nil => exact Nat.zero_le _
  | cons x l ih => rw [putsS_cons, List.length_append, List.length_cons]; have := putS_pos x; omega
theorem putsS_ge {l : List Str} {x : Str} (h : x ∈ l) : x.length ≤ (putsS l).length := by
  induction l with
  | nil => cases h
  | cons y l ih =>
    rw [putsS_cons, List.length_append]
    rcases List.mem_cons.1 h with h | h
    · subst h; have : x.length ≤ (putS x).length := by simp [putS]; omega
      omega
    · have := ih h; omega
theorem allF_puts (s : Str) : ∀ (l : List Str) (k a : Nat) (acc : List Str), (∀ x ∈ l, x.length ≤ 999999) → Here s a (putsS l) → s.length = a + (putsS l).length → l.length < k → allF s k a acc = (acc ++ l, 0) := by
  intro l
  induction l with
  | nil =>
    intro k a acc _ _ hs hk
    obtain ⟨k, rfl⟩ : ∃ j, k = j + 1 := ⟨k - 1, by simp at hk; omega⟩
    rw [allF, if_neg (by rw [hs]; simp [putsS]), List.append_nil]
  | cons x l ih =>
    intro k a acc hx h hs hk
    obtain ⟨k, rfl⟩ : ∃ j, k = j + 1 := ⟨k - 1, by simp at hk; omega⟩
    rw [putsS_cons] at h hs
    have hp := putS_pos x
    have e := getS_put s a x (hx x (by simp)) h.left
    rw [List.length_append] at hs
    rw [allF, if_pos (by omega), e]
    simp only
    rw [if_neg (by simp)]
    have := ih k (a + (putS x).length) (acc ++ [x]) (fun y hy => hx y (by simp [hy])) h.right (by omega) (by simp at hk; omega)
    rw [show ((a : Int) + (putS x).length) = ((a + (putS x).length : Nat) : Int) by omega, this, List.append_assoc]
    rfl
theorem allS_puts (l : List Str) (h : ∀ x ∈ l, x.length ≤ 999999) : allS (putsS l) = (l, 0) := by
  have h1 := putsS_len l
  have := allF_puts (putsS l) l ((putsS l).length + 1) 0 [] h (fun j x hj => by rw [Nat.zero_add]; exact hj) (by omega) (by omega)
  rw [allS]
  simpa using this
/-! ### files -/
def filesL : List File → List Str
  | [] => []
  | f :: l => f.name :: f.text :: filesL l
theorem filesS_puts (l : List File) : filesS l = putsS (filesL l) := by
  induction l with
  | nil => rfl
  | cons f l ih =>
    rw [filesL, putsS_cons, putsS_cons, ← ih]
    show (putS f.name ++ putS f.text) ++ filesS l = _
    rw [List.append_assoc]
theorem pairsS_files (l : List File) : pairsS (filesL l) = l := by
  induction l with
  | nil => rfl
  | cons f l ih => rw [filesL, pairsS, ih]
theorem filesL_even (l : List File) : (filesL l).length % 2 = 0 := by
  induction l with
  | nil => rfl
  | cons f l ih => simp only [filesL, List.length_cons]; omega
theorem parseS_files {l : List File} (hr : rightS l = true) (hs : (filesS l).length ≤ 999999) : parseS (filesS l) = (l, 0) := by
  have ha := allS_puts (filesL l) fun x hx => by have := putsS_ge hx; rw [← filesS_puts] at this; omega
  rw [← filesS_puts] at ha
  rw [parseS, ha]
  simp only
  rw [if_neg (by simp), pairsS_files, hr, if_neg (by simp [filesL_even])]
/-! ### reads -/
def seensL : List Seen → List Str
  | [] => []
  | x :: l => x.name :: markS x :: seensL l
theorem seensS_puts (l : List Seen) : seensS l = putsS (seensL l) := by
  induction l with
  | nil => rfl
  | cons f l ih =>
    rw [seensL, putsS_cons, putsS_cons, ← ih]
    show (putS f.name ++ putS (markS f)) ++ seensS l = _
    rw [List.append_assoc]
theorem okSeen_empty {x : Seen} (h : okSeen x = true) (ht : ¬ x.there = true) : x.text = [] := by
  unfold okSeen at h
  simp only [Bool.and_eq_true, Bool.or_eq_true, decide_eq_true_eq] at h
  exact h.2.elim (fun hh => absurd hh ht) id
theorem oneSeen_back {x : Seen} (h : okSeen x = true) : oneSeen x.name (markS x) = x := by
  unfold oneSeen
  by_cases ht : x.there = true
  · rw [markS_yes ht, if_neg (by simp)]
    cases x; simp at ht ⊢; exact ht
  · rw [markS_no ht, if_pos (.inl rfl)]
    have := okSeen_empty h ht
    cases x; simp at ht this ⊢; exact ⟨ht, this⟩
theorem takeSeen_back {x : Seen} (h : okSeen x = true) : takeSeen x.name (markS x) = x := by
  unfold takeSeen
  by_cases ht : x.there = true
  · rw [markS_yes ht, if_pos (by simp)]
    cases x; simp at ht ⊢; exact ht
  · rw [markS_no ht, if_neg (by simp)]
    have := okSeen_empty h ht
    cases x; simp at ht this ⊢; exact ⟨ht, this⟩
theorem mayF_ok : ∀ {l pre : List Seen}, mayF pre l = true → ∀ x ∈ l, okSeen x = true
  | [], _, _, x, hx => by cases hx
  | y :: l, pre, h, x, hx => by
    rw [mayF] at h
    simp only [Bool.and_eq_true] at h
    rcases List.mem_cons.1 hx with hx | hx
    · subst hx; exact h.1.2
    · exact mayF_ok h.2 x hx
theorem seensOf_back : ∀ {l : List Seen}, (∀ x ∈ l, okSeen x = true) → seensOf (seensL l) = l
  | [], _ => rfl
  | x :: l, h => by rw [seensL, seensOf, oneSeen_back (h x (by simp)), seensOf_back fun y hy => h y (by simp [hy])]
theorem takeSeens_back : ∀ {l : List Seen}, (∀ x ∈ l, okSeen x = true) → takeSeens (seensL l) = l
  | [], _ => rfl
  | x :: l, h => by rw [seensL, takeSeens, takeSeen_back (h x (by simp)), takeSeens_back fun y hy => h y (by simp [hy])]
theorem seensL_even (l : List Seen) : (seensL l).length % 2 = 0 := by
  induction l with
  | nil => rfl
  | cons f l ih => simp only [seensL, List.length_cons]; omega
/-! ### a record -/
theorem textS_puts (r : Rec) : textS r = putsS [r.name, seensS r.seens, filesS r.files] := by
  simp [textS, putsS]
theorem mayS_ok {r : Rec} (h : mayS r = true) : (∀ x ∈ r.seens, okSeen x = true) ∧ rightS r.files = true := by
  rw [mayS] at h
  simp only [Bool.and_eq_true] at h
  exact ⟨mayF_ok h.1, h.2.2⟩
theorem allS_text {r : Rec} (hs : (textS r).length ≤ 999999) : allS (textS r) = ([r.name, seensS r.seens, filesS r.files], 0) ∧ (seensS r.seens).length ≤ 999999 ∧ (filesS r.files).length ≤ 999999 := by
  rw [textS_puts] at hs ⊢
  refine ⟨allS_puts _ fun x hx => by have := putsS_ge hx; omega, ?_, ?_⟩
  · have := putsS_ge (l := [r.name, seensS r.seens, filesS r.files]) (x := seensS r.seens) (by simp); omega
  · have := putsS_ge (l := [r.name, seensS r.seens, filesS r.files]) (x := filesS r.files) (by simp); omega
theorem allS_seens {l : List Seen} (hs : (seensS l).length ≤ 999999) : allS (seensS l) = (seensL l, 0) := by
  rw [seensS_puts] at hs ⊢
  exact allS_puts _ fun x hx => by have := putsS_ge hx; omega
theorem oneS_back {r : Rec} (h : mayS r = true) (hs : (textS r).length ≤ 999999) : oneS (textS r) = r := by
  obtain ⟨h1, h2, h3⟩ := allS_text hs
  obtain ⟨h4, h5⟩ := mayS_ok h
  rw [oneS, h1]
  show (⟨r.name, seensOf (allS (seensS r.seens)).1, (parseS (filesS r.files)).1⟩ : Rec) = r
  rw [allS_seens h2, parseS_files h5 h3]
  simp only [seensOf_back h4]
theorem takeS_back {r : Rec} (h : mayS r = true) (hs : (textS r).length ≤ 999999) (acc : List Rec) : takeS false acc (textS r) = (false, acc ++ [r]) := by
  obtain ⟨h1, h2, h3⟩ := allS_text hs
  obtain ⟨h4, h5⟩ := mayS_ok h
  have e1 : rallS (textS r) 3 = [r.name, seensS r.seens, filesS r.files] := by rw [rallS, h1]; exact if_neg (by simp)
  have e2 : rallB (textS r) 3 = false := by rw [rallB, h1]; simp
  have hev := seensL_even r.seens
  have e3 : rallS (seensS r.seens) 2 = seensL r.seens := by rw [rallS, allS_seens h2]; exact if_neg (by simp only [not_or]; omega)
  have e4 : rallB (seensS r.seens) 2 = false := by rw [rallB, allS_seens h2]; simp; omega
  rw [takeS, e1, if_neg (by simp), e2]
  have q1 : partS [r.name, seensS r.seens, filesS r.files] 1 = seensS r.seens := rfl
  have q2 : partS [r.name, seensS r.seens, filesS r.files] 2 = filesS r.files := rfl
  have q0 : partS [r.name, seensS r.seens, filesS r.files] 0 = r.name := rfl
  rw [takeRec, q0, q1, q2, e3, e4, parseS_files h5 h3, takeSeens_back h4]
  simp
/-! ### all records -/
theorem recsS_puts (l : List Rec) : recsS l = putsS (l.map textS) := by
  simp [recsS, putsS, Function.comp_def]
theorem encS_puts {l : List Rec} {s : Str} (h1 : (encS l).2 = 0) (h2 : (encS l).1 = s) : rgtS l = true ∧ s = putsS (tag :: l.map textS) := by
  unfold encS at h1 h2
  split at h1
  · rename_i h
    rw [if_pos h] at h2
    refine ⟨h, ?_⟩
    rw [← h2, putsS_cons, recsS_puts]
  · cases h1
theorem rgtF_may : ∀ {l pre : List Rec}, rgtF pre l = true → ∀ x ∈ l, mayS x = true
  | [], _, _, x, hx => by cases hx
  | y :: l, pre, h, x, hx => by
    rw [rgtF] at h
    simp only [Bool.and_eq_true] at h
    rcases List.mem_cons.1 hx with hx | hx
    · subst hx; exact h.1.2
    · exact rgtF_may h.2 x hx
theorem rgtS_may {l : List Rec} (h : rgtS l = true) : ∀ x ∈ l, mayS x = true := by
  rw [rgtS] at h
  simp only [Bool.and_eq_true] at h
  exact rgtF_may h.1
theorem takesF_back : ∀ {l acc : List Rec}, (∀ x ∈ l, mayS x = true ∧ (textS x).length ≤ 999999) → takesF (l.map textS) (false, acc) = (false, acc ++ l)
  | [], acc, _ => by rw [List.map_nil, takesF, List.append_nil]
  | x :: l, acc, h => by
    have h1 := h x (by simp)
    rw [List.map_cons, takesF, takeS_back h1.1 h1.2, takesF_back fun y hy => h y (by simp [hy]), List.append_assoc]; rfl
theorem enc_back {l : List Rec} {s : Str} (h1 : (encS l).2 = 0) (h2 : (encS l).1 = s) (hs : s.length ≤ 999999) : takesS s = (false, l) ∧ onesS s = l := by
  obtain ⟨hr, he⟩ := encS_puts h1 h2
  have hsz : ∀ x ∈ tag :: l.map textS, x.length ≤ 999999 := fun x hx => by have := putsS_ge hx; rw [← he] at this; omega
  have ha : allS s = (tag :: l.map textS, 0) := by rw [he]; exact allS_puts _ hsz
  have hall : ∀ x ∈ l, mayS x = true ∧ (textS x).length ≤ 999999 := fun x hx => ⟨rgtS_may hr x hx, hsz _ (by simp only [List.mem_cons, List.mem_map]; exact .inr ⟨x, hx, rfl⟩)⟩
  constructor
  · have e1 : rallS s 1 = tag :: l.map textS := by rw [rallS, ha]; exact if_neg (by simp only [not_or]; omega)
    have e2 : rallB s 1 = false := by rw [rallB, ha]; simp
    rw [takesS, e1, e2]
    have := takesF_back (acc := []) hall
    simpa using this
  · rw [onesS, ha]
    show (l.map textS).map oneS = l
    rw [List.map_map]
    have : ∀ l : List Rec, (∀ x ∈ l, mayS x = true ∧ (textS x).length ≤ 999999) → l.map (oneS ∘ textS) = l := by
      intro l
      induction l with
      | nil => intro _; rfl
      | cons x l ih =>
        intro h
        have h1 := h x (by simp)
        rw [List.map_cons, ih fun y hy => h y (by simp [hy])]
        show oneS (textS x) :: l = x :: l
        rw [oneS_back h1.1 h1.2]
    exact this l hall
/-- both readings are one -/
theorem dec_same (s : Str) (hs : s.length ≤ 999999) : decTake s = decRef s := by
  unfold decTake decRef
  by_cases hT : (takesS s).1 = true
  · rw [if_pos hT]
    by_cases hR : (encS (onesS s)).2 ≠ 0 ∨ (encS (onesS s)).1 ≠ s
    · rw [if_pos hR]
    · exfalso
      have h1 := not_or.1 hR
      have := (enc_back (Decidable.not_not.1 h1.1) (Decidable.not_not.1 h1.2) hs).1
      rw [this] at hT; cases hT
  · rw [if_neg hT]
    by_cases hE : (encS (takesS s).2).2 ≠ 0 ∨ (encS (takesS s).2).1 ≠ s
    · rw [if_pos hE]
      by_cases hR : (encS (onesS s)).2 ≠ 0 ∨ (encS (onesS s)).1 ≠ s
      · rw [if_pos hR]
      · exfalso
        have h1 := not_or.1 hR
        have e1 := Decidable.not_not.1 h1.1
        have e2 := Decidable.not_not.1 h1.2
        have := (enc_back e1 e2 hs).1
        rw [this] at hE
        exact hE.elim (fun h => h e1) (fun h => h e2)
    · rw [if_neg hE]
      have h1 := not_or.1 hE
      have e1 := Decidable.not_not.1 h1.1
      have e2 := Decidable.not_not.1 h1.2
      have := (enc_back e1 e2 hs).2
      rw [this, if_neg hE]
theorem sameSeens_refl (l : List Seen) : sameSeens l l = true := by
  rw [sameSeens, decide_eq_true rfl, Bool.true_and, List.all_eq_true]
  intro p hp
  have := List.mem_iff_getElem?.1 hp
  obtain ⟨k, hk⟩ := this
  rw [List.getElem?_zip_eq_some] at hk
  have : p.1 = p.2 := by have := hk.1.symm.trans hk.2; injection this
  rw [this]; simp
theorem sameFiles_refl (l : List File) : sameFiles l l = true := by
  rw [sameFiles, List.all_eq_true]
  intro p hp
  obtain ⟨k, hk⟩ := List.mem_iff_getElem?.1 hp
  rw [List.getElem?_zip_eq_some] at hk
  have : p.1 = p.2 := by have := hk.1.symm.trans hk.2; injection this
  rw [this]; simp
theorem sameRec_refl (r : Rec) : sameRec r r = true := by
  rw [sameRec, decide_eq_true rfl, sameSeens_refl, sameFiles_refl, decide_eq_true rfl]; rfl
theorem sameS_refl (l : List Rec) : sameS l l = true := by
  rw [sameS, decide_eq_true rfl, Bool.true_and, List.all_eq_true]
  intro p hp
  obtain ⟨k, hk⟩ := List.mem_iff_getElem?.1 hp
  rw [List.getElem?_zip_eq_some] at hk
  have : p.1 = p.2 := by have := hk.1.symm.trans hk.2; injection this
  rw [this]; exact sameRec_refl _
end Go.Stet
namespace Go.Stet
open Go Go.Eng
theorem cut_len (s : Str) (m : Nat) : (s.take (min m 500)).length ≤ 1000 := by rw [List.length_take]; omega
theorem decRef_sz {s : Str} (h : s.length ≤ 1000) : SzL (decRef s).1 := by
  unfold decRef; split
  · exact ⟨Nat.zero_le _, fun x hx => by cases hx⟩
  · exact onesS_sz h
theorem decTake_sz {s : Str} (h : s.length ≤ 1000) : SzL (decTake s).1 := by rw [dec_same s (by omega)]; exact decRef_sz h
theorem SzL.len {l : List Rec} (h : SzL l) : l.length ≤ 1000000 := by have := h.1; omega
theorem SzL.seens {l : List Rec} (h : SzL l) : ∀ x ∈ l, x.seens.length ≤ 1000000 := fun x hx => by have := (h.2 x hx).2.1.1; omega
end Go.Stet
