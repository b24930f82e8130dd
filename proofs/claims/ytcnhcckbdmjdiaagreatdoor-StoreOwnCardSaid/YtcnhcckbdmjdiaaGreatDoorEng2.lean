/- Memory: a committed heap and chunks that are owned. No condition. -/
import Derived.Test.YtcnhcckbdmjdiaaGreatDoorEng1
import Derived.Laws.AppendOwn
set_option linter.all false
set_option linter.unusedSimpArgs false
set_option linter.unusedVariables false
namespace Go.Eng
open Go
abbrev Hp := Nat → Option Obj
def Hp.le (h k : Hp) : Prop := ∀ b o, h b = some o → k b = some o
theorem Hp.le_refl (h : Hp) : h.le h := fun _ _ e => e
theorem Hp.le.trans {h k l : Hp} (a : h.le k) (b : k.le l) : h.le l := fun _ _ e => b _ _ (a _ _ e)
def HProp := Hp → Prop
def Disj (g k : Hp) : Prop := ∀ b, g b = none ∨ k b = none
def In (g : Hp) (w : World) : Prop := ∀ b o, g b = some o → w.heap[b]? = some o
def emp : HProp := fun g => ∀ b, g b = none
def blk (b : Nat) (o : Obj) : HProp := fun g => ∀ c, g c = if c = b then some o else none
def single (b : Nat) (o : Obj) : Hp := fun c => if c = b then some o else none
theorem blk_iff {b o g} : blk b o g ↔ g = single b o := ⟨fun h => funext h, fun h => by subst h; exact fun _ => rfl⟩
def Sats : List HProp → Hp → Prop
  | [], g => ∀ b, g b = none
  | A :: L, g => ∃ g1 g2, A g1 ∧ Sats L g2 ∧ Disj g1 g2 ∧ ∀ b, g b = (g1 b).or (g2 b)
/-- what has not turned since a world -/
structure Kept (we : World) (M : Nat → Prop) (w : World) : Prop where
  os : w.os = we.os
  tape : w.tape = we.tape
  output : w.output = we.output
  size : we.heap.size ≤ w.heap.size
  old : ∀ b, b < we.heap.size → ¬ M b → w.heap[b]? = we.heap[b]?
/-- the world in which all began; the blocks that may be written; what holds in all worlds on the way -/
structure Ctx (G : World → Prop) where
  we : World
  M : Nat → Prop
  stable : ∀ w, Kept we M w → G w
structure St {G : World → Prop} (Γ : Ctx G) (h : Hp) (L : List HProp) (w : World) : Prop where
  keep : Kept Γ.we Γ.M w
  hin : In h w
  ex : ∃ g, Sats L g ∧ In g w ∧ Disj h g ∧ ∀ b o, g b = some o → Γ.we.heap.size ≤ b ∨ Γ.M b
/-- one step of the world: old blocks stay, but for those of S -/
structure Stp (S : Nat → Prop) (w w' : World) : Prop where
  os : w'.os = w.os
  tape : w'.tape = w.tape
  output : w'.output = w.output
  size : w.heap.size ≤ w'.heap.size
  old : ∀ b, b < w.heap.size → ¬ S b → w'.heap[b]? = w.heap[b]?
abbrev Ext (w w' : World) : Prop := Stp (fun _ => False) w w'
theorem Ext.refl (w : World) : Ext w w := ⟨rfl, rfl, rfl, Nat.le_refl _, fun _ _ _ => rfl⟩
theorem Ext.trans {a b c : World} (h : Ext a b) (k : Ext b c) : Ext a c :=
  ⟨k.os.trans h.os, k.tape.trans h.tape, k.output.trans h.output, Nat.le_trans h.size k.size,
   fun i hi _ => (k.old i (Nat.lt_of_lt_of_le hi h.size) id).trans (h.old i hi id)⟩
theorem In.lt {g : Hp} {w : World} (h : In g w) {b o} (hb : g b = some o) : b < w.heap.size := by
  have := h b o hb
  exact (Array.getElem?_eq_some_iff.1 this).1
theorem In.ext {g : Hp} {w w' : World} (h : In g w) (e : Ext w w') : In g w' := fun b o hb => by
  rw [e.old b (h.lt hb) id]; exact h b o hb
theorem In.stp {g : Hp} {S : Nat → Prop} {w w' : World} (h : In g w) (e : Stp S w w') (hS : ∀ b, S b → g b = none) : In g w' := fun b o hb => by
  rw [e.old b (h.lt hb) (fun hs => by rw [hS b hs] at hb; cases hb)]; exact h b o hb
theorem Kept.stp {we M w w'} {S : Nat → Prop} (h : Kept we M w) (e : Stp S w w') (hS : ∀ b, S b → we.heap.size ≤ b ∨ M b) : Kept we M w' :=
  ⟨e.os.trans h.os, e.tape.trans h.tape, e.output.trans h.output, Nat.le_trans h.size e.size, fun b hb hm => by
    rw [e.old b (Nat.lt_of_lt_of_le hb h.size) (fun hs => by rcases hS b hs with h1 | h1; omega; exact hm h1)]
    exact h.old b hb hm⟩
theorem Disj.symm {g k : Hp} (h : Disj g k) : Disj k g := fun b => (h b).symm
section
variable {G : World → Prop} {Γ : Ctx G} {h : Hp} {L : List HProp} {w w' : World}
theorem St.g (hS : St Γ h L w) : G w := Γ.stable w hS.keep
theorem St.ext (hS : St Γ h L w) (e : Ext w w') : St Γ h L w' := by
  obtain ⟨g, h1, h2, h3, h4⟩ := hS.ex
  exact ⟨hS.keep.stp e (fun _ h => h.elim), hS.hin.ext e, g, h1, h2.ext e, h3, h4⟩
theorem St.weaken_h {k : Hp} (hS : St Γ h L w) (hk : k.le h) : St Γ k L w := by
  obtain ⟨g, h1, h2, h3, h4⟩ := hS.ex
  refine ⟨hS.keep, fun b o hb => hS.hin b o (hk b o hb), g, h1, h2, fun b => ?_, h4⟩
  rcases h3 b with h3 | h3
  · left
    cases hb : k b with
    | none => rfl
    | some o => rw [hk b o hb] at h3; cases h3
  · exact .inr h3
/-- taking the i-th chunk out, and another one in its place -/
theorem Sats.split {L : List HProp} : ∀ {i : Nat} {A : HProp} {g : Hp}, L[i]? = some A → Sats L g →
    ∃ g1 g2, A g1 ∧ Disj g1 g2 ∧ (∀ b, g b = (g1 b).or (g2 b)) ∧
      ∀ (A' : HProp) (g1' : Hp), A' g1' → Disj g1' g2 → Sats (L.set i A') (fun b => (g1' b).or (g2 b)) := by
  induction L with
  | nil => intro i A g hi; simp at hi
  | cons B L ih =>
    intro i A g hi hs
    obtain ⟨ga, gb, ha, hb, hd, hu⟩ := hs
    cases i with
    | zero =>
      simp at hi; subst hi
      exact ⟨ga, gb, ha, hd, hu, fun A' g1' h1 h2 => ⟨g1', gb, h1, hb, h2, fun _ => rfl⟩⟩
    | succ i =>
      simp at hi
      obtain ⟨g1, g2, h1, h2, h3, h4⟩ := ih hi hb
      have hd1 : Disj ga g1 := fun b => by
        rcases hd b with h | h
        · exact .inl h
        · right; rw [h3 b] at h; exact (Option.or_eq_none_iff.1 h).1
      have hd2 : Disj ga g2 := fun b => by
        rcases hd b with h | h
        · exact .inl h
        · right; rw [h3 b] at h; exact (Option.or_eq_none_iff.1 h).2
      refine ⟨g1, fun b => (ga b).or (g2 b), h1, fun b => ?_, fun b => ?_, fun A' g1' h1' h2' => ?_⟩
      · rcases hd1 b with h | h
        · rcases h2 b with h' | h'
          · exact .inl h'
          · right; simp [h, h']
        · exact .inl h
      · rw [hu b, h3 b]
        rcases hd1 b with h | h
        · simp [h]
        · simp [h]
      · have hd3 : Disj g1' g2 := fun b => by
          rcases h2' b with h | h
          · exact .inl h
          · exact .inr (Option.or_eq_none_iff.1 h).2
        refine ⟨ga, _, ha, h4 A' g1' h1' hd3, fun b => ?_, fun b => ?_⟩
        · rcases hd2 b with h | h
          · exact .inl h
          · rcases h2' b with h' | h'
            · right; simp [h, h']
            · exact .inl (Option.or_eq_none_iff.1 h').1
        · rcases h2' b with h | h
          · simp [h]
          · have hga : ga b = none := (Option.or_eq_none_iff.1 h).1
            simp [hga]
/-- a local act upon the i-th chunk -/
theorem St.act {i : Nat} {A A' : HProp} (hS : St Γ h L w) (hi : L[i]? = some A)
    (ha : ∀ g1, A g1 → In g1 w → (∀ b o, g1 b = some o → h b = none) → ∃ g1', A' g1' ∧ In g1' w' ∧ (∀ b o, g1' b = some o → (∃ o0, g1 b = some o0) ∨ w.heap.size ≤ b) ∧ Stp (fun b => ∃ o, g1 b = some o) w w') :
    St Γ h (L.set i A') w' := by
  obtain ⟨g, h1, h2, h3, h4⟩ := hS.ex
  obtain ⟨g1, g2, k1, k2, k3, k4⟩ := Sats.split hi h1
  have hg1 : ∀ b o, g1 b = some o → g b = some o := fun b o hb => by rw [k3, hb]; rfl
  have hg2 : ∀ b o, g2 b = some o → g b = some o := fun b o hb => by
    rw [k3]; rcases k2 b with h | h
    · rw [h, hb]; rfl
    · rw [h] at hb; cases hb
  have hin1 : In g1 w := fun b o hb => h2 b o (hg1 b o hb)
  have hin2 : In g2 w := fun b o hb => h2 b o (hg2 b o hb)
  have hh1 : ∀ b o, g1 b = some o → h b = none := fun b o hb => by
    rcases h3 b with h | h
    · exact h
    · rw [hg1 b o hb] at h; cases h
  obtain ⟨g1', m1, m2, m3, m4⟩ := ha g1 k1 hin1 hh1
  have hd : Disj g1' g2 := fun b => by
    cases hb : g1' b with
    | none => exact .inl rfl
    | some o =>
      right
      cases hb2 : g2 b with
      | none => rfl
      | some o2 =>
        rcases m3 b o hb with ⟨o0, h0⟩ | h0
        · rcases k2 b with h | h
          · rw [h] at h0; cases h0
          · rw [h] at hb2; cases hb2
        · have := hin2.lt hb2; omega
  have hin2' : In g2 w' := hin2.stp m4 fun b ⟨o, ho⟩ => by
    rcases k2 b with h | h
    · rw [h] at ho; cases ho
    · exact h
  refine ⟨hS.keep.stp m4 fun b ⟨o, ho⟩ => h4 b o (hg1 b o ho), hS.hin.stp m4 fun b ⟨o, ho⟩ => hh1 b o ho, _, k4 A' g1' m1 hd, fun b o hb => ?_, fun b => ?_, fun b o hb => ?_⟩
  · simp only at hb
    cases hg : g1' b with
    | none => rw [hg] at hb; exact hin2' b o (by simpa using hb)
    | some o1 => rw [hg] at hb; simp at hb; subst hb; exact m2 b o1 hg
  · simp only
    cases hb : h b with
    | none => exact .inl rfl
    | some o =>
      right
      have hb1 : g1' b = none := by
        cases hg : g1' b with
        | none => rfl
        | some o1 =>
          rcases m3 b o1 hg with ⟨o0, h0⟩ | h0
          · rw [hh1 b o0 h0] at hb; cases hb
          · have := hS.hin.lt hb; omega
      have hb2 : g2 b = none := by
        cases hg : g2 b with
        | none => rfl
        | some o1 =>
          rcases h3 b with h' | h'
          · rw [h'] at hb; cases hb
          · rw [hg2 b o1 hg] at h'; cases h'
      rw [hb1, hb2]; rfl
  · skip
    cases hg : g1' b with
    | none => rw [hg] at hb; exact h4 b o (hg2 b o (by simpa using hb))
    | some o1 =>
      rcases m3 b o1 hg with ⟨o0, h0⟩ | h0
      · exact h4 b o0 (hg1 b o0 h0)
      · left; have := hS.keep.size; omega
/-- a new chunk of new blocks -/
theorem St.push {A' : HProp} (hS : St Γ h L w) (ha : ∃ g1', A' g1' ∧ In g1' w' ∧ (∀ b o, g1' b = some o → w.heap.size ≤ b)) (he : Ext w w') : St Γ h (A' :: L) w' := by
  have h0 : St Γ h (emp :: L) w := by
    obtain ⟨g, h1, h2, h3, h4⟩ := hS.ex
    exact ⟨hS.keep, hS.hin, g, ⟨fun _ => none, g, fun _ => rfl, h1, fun _ => .inl rfl, fun _ => rfl⟩, h2, h3, h4⟩
  refine h0.act (i := 0) (A := emp) (A' := A') rfl fun g1 hg1 _ _ => ?_
  obtain ⟨g1', m1, m2, m3⟩ := ha
  exact ⟨g1', m1, m2, fun b o hb => .inr (m3 b o hb), ⟨he.os, he.tape, he.output, he.size, fun b hb _ => he.old b hb id⟩⟩
theorem St.pop {A : HProp} (hS : St Γ h (A :: L) w) : St Γ h L w := by
  obtain ⟨g, h1, h2, h3, h4⟩ := hS.ex
  obtain ⟨g1, g2, k1, k2, k3, k4⟩ := h1
  have hg2 : ∀ b o, g2 b = some o → g b = some o := fun b o hb => by
    rw [k4]; rcases k3 b with h | h
    · rw [h, hb]; rfl
    · rw [h] at hb; cases hb
  refine ⟨hS.keep, hS.hin, g2, k2, fun b o hb => h2 b o (hg2 b o hb), fun b => ?_, fun b o hb => h4 b o (hg2 b o hb)⟩
  rcases h3 b with h | h
  · exact .inl h
  · right
    cases hb : g2 b with
    | none => rfl
    | some o => rw [hg2 b o hb] at h; cases h
/-- what the i-th chunk says -/
theorem St.look {i : Nat} {A : HProp} (hS : St Γ h L w) (hi : L[i]? = some A) : ∃ g1, A g1 ∧ In g1 w ∧ ∀ b o, g1 b = some o → h b = none ∧ (Γ.we.heap.size ≤ b ∨ Γ.M b) := by
  obtain ⟨g, h1, h2, h3, h4⟩ := hS.ex
  obtain ⟨g1, g2, k1, k2, k3, k4⟩ := Sats.split hi h1
  have hg1 : ∀ b o, g1 b = some o → g b = some o := fun b o hb => by rw [k3, hb]; rfl
  refine ⟨g1, k1, fun b o hb => h2 b o (hg1 b o hb), fun b o hb => ⟨?_, h4 b o (hg1 b o hb)⟩⟩
  rcases h3 b with h | h
  · exact h
  · rw [hg1 b o hb] at h; cases h
theorem St.has {i : Nat} {b : Nat} {o : Obj} (hS : St Γ h L w) (hi : L[i]? = some (blk b o)) : w.heap[b]? = some o := by
  obtain ⟨g1, k1, k2, _⟩ := hS.look hi
  exact k2 b o (by rw [k1 b, if_pos rfl])
/-- a chunk may be told otherwise -/
theorem St.conv {i : Nat} {A A' : HProp} (hS : St Γ h L w) (hi : L[i]? = some A) (ha : ∀ g, A g → A' g) : St Γ h (L.set i A') w :=
  hS.act hi fun g1 h1 h2 _ => ⟨g1, ha g1 h1, h2, fun _ o hb => .inl ⟨o, hb⟩, ⟨rfl, rfl, rfl, Nat.le_refl _, fun _ _ _ => rfl⟩⟩
/-- a chunk is handed over to the committed heap -/
theorem St.commit {i : Nat} {A : HProp} (hS : St Γ h L w) (hi : L[i]? = some A) :
    ∃ g1 h', A g1 ∧ h.le h' ∧ (∀ b o, g1 b = some o → h' b = some o) ∧ St Γ h' (L.set i emp) w := by
  obtain ⟨g, h1, h2, h3, h4⟩ := hS.ex
  obtain ⟨g1, g2, k1, k2, k3, k4⟩ := Sats.split hi h1
  have hg1 : ∀ b o, g1 b = some o → g b = some o := fun b o hb => by rw [k3, hb]; rfl
  have hg2 : ∀ b o, g2 b = some o → g b = some o := fun b o hb => by
    rw [k3]; rcases k2 b with h | h
    · rw [h, hb]; rfl
    · rw [h] at hb; cases hb
  have hh1 : ∀ b o, g1 b = some o → h b = none := fun b o hb => by
    rcases h3 b with h | h
    · exact h
    · rw [hg1 b o hb] at h; cases h
  refine ⟨g1, fun b => (h b).or (g1 b), k1, fun b o hb => by simp [hb], fun b o hb => by simp [hh1 b o hb, hb], hS.keep, fun b o hb => ?_, _, k4 emp (fun _ => none) (fun _ => rfl) (fun _ => .inl rfl), fun b o hb => ?_, fun b => ?_, fun b o hb => ?_⟩
  · cases hg : h b with
    | none => rw [hg] at hb; exact h2 b o (hg1 b o (by simpa using hb))
    | some o1 => rw [hg] at hb; simp at hb; subst hb; exact hS.hin b o1 hg
  · exact h2 b o (hg2 b o (by simpa using hb))
  · cases hb : g2 b with
    | none => right; simp [hb]
    | some o =>
      left
      have e1 : h b = none := by
        rcases h3 b with h' | h'
        · exact h'
        · rw [hg2 b o hb] at h'; cases h'
      have e2 : g1 b = none := by
        rcases k2 b with h' | h'
        · exact h'
        · rw [hb] at h'; cases h'
      simp [e1, e2]
  · exact h4 b o (hg2 b o (by simpa using hb))
end
end Go.Eng
