/- A region that draws its order, some operations of whose head turn memory, one behind the other; edges that do not bind are passed over. No condition. -/
import Derived.Test.YtcnhcckbdmjdiaaGreatDoorEng13
set_option linter.all false
set_option linter.unusedSimpArgs false
set_option linter.unusedVariables false
namespace Go.Eng
open Go
/-- the edges that bind -/
def bindL (o : Oper) : List Edge := o.after.toList.filter fun e => Region.binds .any e
/-- the stages at which an operation may be done -/
def stagesOf (turns : List Nat) (lates afts : List (List Nat)) (i : Nat) : List Nat :=
  (List.range (turns.length + 1)).filter fun k => (k == 0 || (lates.getD (k - 1) []).contains i) && (match turns.idxOf? i with | some j => j == k | none => true) &&
    (List.range turns.length).all fun j => decide (j < k) || !(afts.getD j []).contains i
/-- what stands behind s -/
def aftB (nf s : Nat) (aft : List Nat) (l : List Oper) : Bool :=
  aft.all fun i => decide (i < nf) && ((l[i]?).map fun o => (bindL o).any fun e => e.on == s || aft.contains e.on).getD false
section
variable (P : Program) (n : Nat) (ds : List Deferred) (l : List Oper) (h : Hp) (base : List (Nat × Value)) (Fs : FactL)
def StepH (o : Oper) (i : Nat) (Pre Post : Hp → (Nat → Value) → World → Prop) : Prop :=
  ∀ r w h', h.le h' → Pre h' r w → Sat r base → PF l Fs h' r (bindL o) →
    WL P n ds l [o] (fun e r' w' => e = .normal ∧ ∃ v h'', r' = putd n r o.dst v ∧ h'.le h'' ∧ Fs.getD i (fun _ _ => True) h'' v ∧ Post h'' r' w') r w
def StepN (turns : List Nat) (lates afts : List (List Nat)) (J : Nat → Hp → (Nat → Value) → World → Prop) (o : Oper) (i : Nat) : Prop :=
  ∀ k, k ∈ stagesOf turns lates afts i → StepH P n ds l h base Fs o i (J k) (J (if turns[k]? = some i then k + 1 else k))
def StepsN (turns : List Nat) (lates afts : List (List Nat)) (J : Nat → Hp → (Nat → Value) → World → Prop) : List Oper → Nat → Prop
  | [], _ => True
  | o :: os, i => StepN P n ds l h base Fs turns lates afts J o i ∧ StepsN turns lates afts J os (i + 1)
end
theorem StepsN.get {P : Program} {n : Nat} {ds : List Deferred} {l : List Oper} {h : Hp} {base : List (Nat × Value)} {Fs : FactL} {turns : List Nat} {lates afts : List (List Nat)} {J : Nat → Hp → (Nat → Value) → World → Prop} :
    ∀ {os : List Oper} {k : Nat}, StepsN P n ds l h base Fs turns lates afts J os k → ∀ j o, os[j]? = some o → StepN P n ds l h base Fs turns lates afts J o (k + j)
  | [], _, _, j, o, hj => by simp at hj
  | o' :: os, k, ⟨s1, s2⟩, j, o, hj => by
    cases j with
    | zero => simp at hj; subst hj; exact s1
    | succ j =>
      have := StepsN.get s2 j o (by simpa using hj)
      rwa [show k + 1 + j = k + (j + 1) by omega] at this
section
variable {P : Program} {n : Nat} {ds : List Deferred} {l : List Oper} {h : Hp} {base : List (Nat × Value)} {Fs : FactL} {turns : List Nat} {lates afts : List (List Nat)} {J : Nat → Hp → (Nat → Value) → World → Prop} {o : Oper} {i : Nat}
theorem stepN1 {a b : Nat} (hs : stagesOf turns lates afts i = [a]) (hb : (if turns[a]? = some i then a + 1 else a) = b) (k : StepH P n ds l h base Fs o i (J a) (J b)) : StepN P n ds l h base Fs turns lates afts J o i := fun c hc => by
  rw [hs, List.mem_singleton] at hc; subst hc; rw [hb]; exact k
theorem stepN2 {a b : Nat} (hs : stagesOf turns lates afts i = [a, b]) (ha : (if turns[a]? = some i then a + 1 else a) = a) (hb : (if turns[b]? = some i then b + 1 else b) = b) (k : StepH P n ds l h base Fs o i (J a) (J a)) (k2 : StepH P n ds l h base Fs o i (J b) (J b)) : StepN P n ds l h base Fs turns lates afts J o i := fun c hc => by
  rw [hs] at hc; simp only [List.mem_cons, List.not_mem_nil, or_false] at hc
  rcases hc with rfl | rfl
  · rw [ha]; exact k
  · rw [hb]; exact k2
theorem stepN3 {a b c : Nat} (hs : stagesOf turns lates afts i = [a, b, c]) (ha : (if turns[a]? = some i then a + 1 else a) = a) (hb : (if turns[b]? = some i then b + 1 else b) = b) (hc : (if turns[c]? = some i then c + 1 else c) = c) (k : StepH P n ds l h base Fs o i (J a) (J a)) (k2 : StepH P n ds l h base Fs o i (J b) (J b)) (k3 : StepH P n ds l h base Fs o i (J c) (J c)) : StepN P n ds l h base Fs turns lates afts J o i := fun d hd => by
  rw [hs] at hd; simp only [List.mem_cons, List.not_mem_nil, or_false] at hd
  rcases hd with rfl | rfl | rfl
  · rw [ha]; exact k
  · rw [hb]; exact k2
  · rw [hc]; exact k3
end
/-- the closed tests of such a region -/
def drawNB (n nf : Nat) (l : List Oper) (keys : List Nat) (turns : List Nat) (lates afts : List (List Nat)) : Bool :=
  decide (nf < l.length) && Region.sinkB .any l.toArray nf && Region.chainB .any l.toArray nf &&
  Region.seqB .any l.toArray (l.length - nf) nf (List.replicate nf true ++ List.replicate (l.length - nf) false).toArray &&
  ((List.range nf).all fun i => ((l[i]?).map fun o => (bindL o).all fun e => decide (e.on < i)).getD false) &&
  ((List.range nf).all fun i => match dstOf l i with
    | none => true
    | some d => decide (d < n) && !keys.contains d && (List.range nf).all fun j => i == j || !(dstOf l j == some d)) &&
  turns.all (fun s => decide (s < nf)) &&
  ((List.range turns.length).all fun k => lateB nf (turns.getD k 0) (lates.getD k []) l) &&
  ((List.range turns.length).all fun k => aftB nf (turns.getD k 0) (afts.getD k []) l) &&
  ((List.range (turns.length - 1)).all fun k => ((l[turns.getD (k + 1) 0]?).map fun o => (bindL o).any fun e => e.on == turns.getD k 0).getD false)
/-- how many of the turning operations are done -/
def stage (turns : List Nat) (listed : Array Bool) : Nat := (turns.takeWhile fun s => listed.getD s false).length
theorem stage_le (turns : List Nat) (listed : Array Bool) : stage turns listed ≤ turns.length := by
  induction turns with
  | nil => exact Nat.le_refl _
  | cons s ts ih =>
    have : stage (s :: ts) listed = if listed.getD s false = true then stage ts listed + 1 else 0 := by
      unfold stage; rw [List.takeWhile_cons]; split <;> simp_all
    rw [this]; split <;> simp <;> omega
theorem stage_cons (s : Nat) (ts : List Nat) (listed : Array Bool) : stage (s :: ts) listed = if listed.getD s false = true then stage ts listed + 1 else 0 := by
  unfold stage; rw [List.takeWhile_cons]; split <;> simp_all
theorem stage_done {turns : List Nat} {listed : Array Bool} : ∀ k, k < stage turns listed → ∃ s, turns[k]? = some s ∧ listed.getD s false = true := by
  induction turns with
  | nil => intro k hk; exact absurd hk (by simp [stage])
  | cons s ts ih =>
    intro k hk
    rw [stage_cons] at hk
    split at hk
    · rename_i hs
      cases k with
      | zero => exact ⟨s, rfl, hs⟩
      | succ k =>
        obtain ⟨s', h1, h2⟩ := ih k (by omega)
        exact ⟨s', by simpa using h1, h2⟩
    · omega
theorem stage_next {turns : List Nat} {listed : Array Bool} {s : Nat} (h : turns[stage turns listed]? = some s) : listed.getD s false ≠ true := by
  induction turns with
  | nil => simp [stage] at h
  | cons s' ts ih =>
    rw [stage_cons] at h
    split at h
    · exact ih (by simpa using h)
    · rename_i hs
      simp at h; subst h; exact hs
/-- a prefix listed: the stage -/
theorem stage_of {turns : List Nat} {listed : Array Bool} : ∀ {k}, (∀ j, j < k → ∃ s, turns[j]? = some s ∧ listed.getD s false = true) → (∀ s, turns[k]? = some s → listed.getD s false ≠ true) → stage turns listed = k := by
  induction turns with
  | nil =>
    intro k h1 _
    cases k with
    | zero => rfl
    | succ k => obtain ⟨s, h, _⟩ := h1 0 (by omega); simp at h
  | cons s ts ih =>
    intro k h1 h2
    rw [stage_cons]
    cases k with
    | zero => rw [if_neg (h2 s rfl)]
    | succ k =>
      obtain ⟨s', e, h3⟩ := h1 0 (by omega)
      simp at e; subst e
      rw [if_pos h3, ih (k := k) (fun j hj => by have := h1 (j + 1) (by omega); simpa using this) (fun s' hs => h2 s' (by simpa using hs))]
theorem aft_listed {nf s : Nat} {aft : List Nat} {l : List Oper} {listed : Array Bool} (hB : aftB nf s aft l = true) (inv : HeadInv .any l.toArray nf listed)
    (hfwd : ∀ i o, i < nf → l[i]? = some o → ∀ e ∈ o.after, Region.binds .any e = true → e.on < i) :
    ∀ i, i ∈ aft → (∀ o, l[i]? = some o → ∀ e ∈ o.after, Region.binds .any e = true → listed.getD e.on false = true) → listed.getD s false = true := by
  intro i
  induction i using Nat.strongRecOn with
  | _ i ih =>
    intro hi hp
    have h1 := List.all_eq_true.1 hB i hi
    rw [Bool.and_eq_true, decide_eq_true_eq] at h1
    cases ho : l[i]? with
    | none => rw [ho] at h1; cases h1.2
    | some o =>
      have h2 := h1.2
      rw [ho] at h2
      simp only [Option.map_some, Option.getD_some, List.any_eq_true, Bool.or_eq_true, beq_iff_eq, List.contains_eq_mem, decide_eq_true_eq] at h2
      obtain ⟨e, he, h3⟩ := h2
      unfold bindL at he
      rw [List.mem_filter] at he
      have he' : e ∈ o.after := by simpa using he.1
      have hl := hp o ho e he' he.2
      rcases h3 with h3 | h3
      · rw [h3] at hl; exact hl
      · refine ih e.on (hfwd i o h1.1 ho e he' he.2) h3 fun o' ho' e' he2 hb' => ?_
        exact inv.closed e.on o' (by simpa using ho') hl e' he2 hb'
theorem WC.drawN {P : Program} {n : Nat} {ds : List Deferred} {l : List Oper} {h : Hp} {J : Nat → Hp → (Nat → Value) → World → Prop} {Q : Qr} {r : Nat → Value} {w : World} {id : Nat}
    (nf : Nat) (turns : List Nat) (lates afts : List (List Nat)) (base : List (Nat × Value)) (Fs : FactL) (hS : J 0 h r w) (hJ0 : ∀ h r w w', Ext w w' → J 0 h r w → J 0 h r w') (hm : P.follows .mixedOrders = true) (hB : drawNB n nf l (base.map (·.1)) turns lates afts = true) (hnd : turns.Nodup) (hmono : MonoFs Fs) (hbase : Sat r base)
    (steps : StepsN P n ds l h base Fs turns lates afts J (l.take nf) 0)
    (tail : ∀ r w h', h.le h' → J turns.length h' r w → Sat r base → AF Fs h' r (l.take nf) 0 → WL P n ds l (l.drop nf) Q r w) : WC P n ds (.region id l.toArray true) Q r w := by
  intro a ha
  refine wp_region_any hm ?_
  simp only [drawNB, Bool.and_eq_true, decide_eq_true_eq] at hB
  obtain ⟨⟨⟨⟨⟨⟨⟨⟨⟨hn, hsink⟩, hchain⟩, hseq⟩, hfwd⟩, hdst⟩, hlt⟩, hlate⟩, haft⟩, hnext⟩ := hB
  have haft' : ∀ (k s : Nat), turns[k]? = some s → aftB nf s (afts.getD k []) l = true := fun k s hs => by
    have hk : k < turns.length := (List.getElem?_eq_some_iff.1 hs).1
    have := List.all_eq_true.1 haft k (List.mem_range.2 hk)
    rwa [List.getD_eq_getElem?_getD (l := turns), hs] at this
  have hlt' : ∀ (k s : Nat), turns[k]? = some s → s < nf := fun k s hs => by
    have := List.all_eq_true.1 hlt s (List.mem_of_getElem? hs)
    exact of_decide_eq_true this
  have hlate' : ∀ (k s : Nat), turns[k]? = some s → lateB nf s (lates.getD k []) l = true := fun k s hs => by
    have hk : k < turns.length := (List.getElem?_eq_some_iff.1 hs).1
    have := List.all_eq_true.1 hlate k (List.mem_range.2 hk)
    rwa [List.getD_eq_getElem?_getD (l := turns), hs] at this
  have hnext' : ∀ (k s s' : Nat), turns[k]? = some s → turns[k + 1]? = some s' → ∀ o, l[s']? = some o → ∃ e, e ∈ o.after ∧ e.on = s ∧ Region.binds .any e = true := fun k s s' hs hs' o ho => by
    have hk : k + 1 < turns.length := (List.getElem?_eq_some_iff.1 hs').1
    have := List.all_eq_true.1 hnext k (List.mem_range.2 (by omega))
    rw [List.getD_eq_getElem?_getD (l := turns) (i := k + 1), hs', List.getD_eq_getElem?_getD (l := turns) (i := k), hs] at this
    simp only [Option.getD_some] at this
    rw [ho] at this
    simp only [Option.map_some, Option.getD_some, List.any_eq_true, beq_iff_eq] at this
    obtain ⟨e, he, h2⟩ := this
    unfold bindL at he
    rw [List.mem_filter] at he
    exact ⟨e, by simpa using he.1, h2, he.2⟩
  have hfwd' : ∀ i o, i < nf → l[i]? = some o → ∀ e ∈ o.after, Region.binds .any e = true → e.on < i := by
    intro i o hi ho e he hb
    have := List.all_eq_true.1 hfwd i (List.mem_range.2 hi)
    rw [ho] at this
    simp only [Option.map_some, Option.getD_some] at this
    have h2 := List.all_eq_true.1 this e (by unfold bindL; rw [List.mem_filter]; exact ⟨by simpa using he, hb⟩)
    exact of_decide_eq_true h2
  have hdst' : ∀ i d, i < nf → dstOf l i = some d → d < n ∧ d ∉ base.map (·.1) ∧ ∀ j, j < nf → dstOf l j = some d → i = j := by
    intro i d hi hd
    have := List.all_eq_true.1 hdst i (List.mem_range.2 hi)
    rw [hd] at this
    simp only [Bool.and_eq_true, decide_eq_true_eq, Bool.not_eq_true'] at this
    obtain ⟨⟨k1, k2⟩, k3⟩ := this
    refine ⟨k1, by simpa using k2, fun j hj hdj => ?_⟩
    have := List.all_eq_true.1 k3 j (List.mem_range.2 hj)
    rw [hdj] at this
    simpa using this
  -- the invariant
  have key : ∀ (m : Nat) (listed : Array Bool) (a : Act) (w' : World), HeadInv .any l.toArray nf listed →
      ((List.range nf).filter fun i => !listed.getD i true).length = m →
      (∃ r h', Fits n ds r a ∧ h.le h' ∧ J (stage turns listed) h' r w' ∧ Sat r base ∧ ∀ j, j < nf → listed.getD j false = true → ∀ d, dstOf l j = some d → Fs.getD j (fun _ _ => True) h' (r d)) →
      wpAny P .any l.toArray (lift n ds Q) (m + (l.length - nf)) listed a w' := by
    intro m
    induction m with
    | zero =>
      rintro listed a w' inv hcnt ⟨r, h', hf, hle, hS', hsat, hfacts⟩
      have hall : ∀ i, i < nf → listed.getD i true = true := by
        intro i hi
        have h0 := List.eq_nil_of_length_eq_zero hcnt
        rw [List.filter_eq_nil_iff] at h0
        have := h0 i (List.mem_range.2 hi)
        simpa using this
      have hsz := inv.size
      simp only [List.size_toArray] at hsz
      have hcan := count_unlisted listed nf hall (by omega) (fun t h1 h2 => inv.tail t h1 (by simp; omega))
      rw [hsz] at hcan
      rw [Nat.zero_add]
      have htl : (l.drop nf).length = l.length - nf := by simp
      rw [← htl]
      refine wpAny_of_seq (l.drop nf) nf listed a w' (fun j => by simp) (by rw [htl, hcan]; exact hseq) ?_
      have hst : stage turns listed = turns.length := by
        refine stage_of (fun j hj => ⟨_, List.getElem?_eq_getElem hj, ?_⟩) (fun s hs => by simp at hs)
        have h3 := hlt' j _ (List.getElem?_eq_getElem hj)
        have h4 := hall _ h3
        have hjs : turns[j] < listed.size := by omega
        simp [hjs] at h4 ⊢; exact h4
      rw [hst] at hS'
      refine tail r w' h' hle hS' hsat (AF.of fun j o d hj hd => ?_) a hf
      have hj' : j < nf := by
        rcases Nat.lt_or_ge j nf with h | h
        · exact h
        · rw [List.getElem?_take, if_neg (by omega)] at hj; cases hj
      rw [List.getElem?_take_of_lt hj'] at hj
      have hd' : dstOf l j = some d := by simp [dstOf, hj, hd]
      have hlj : listed.getD j false = true := by
        have := hall j hj'
        have hjs : j < listed.size := by omega
        simp [hjs] at this ⊢; exact this
      rw [Nat.zero_add]
      exact hfacts j hj' hlj d hd'
    | succ m ih =>
      rintro listed a w' inv hcnt ⟨r, h', hf, hle, hS', hsat, hfacts⟩
      have hsz := inv.size
      simp only [List.size_toArray] at hsz
      -- some head operation is not listed
      obtain ⟨i0, hi0, hun0⟩ : ∃ i0, i0 < nf ∧ listed.getD i0 true = false := by
        cases hfl : (List.range nf).filter fun i => !listed.getD i true with
        | nil => rw [hfl] at hcnt; cases hcnt
        | cons x xs =>
          have : x ∈ (List.range nf).filter fun i => !listed.getD i true := by rw [hfl]; simp
          rw [List.mem_filter, List.mem_range] at this
          exact ⟨x, this.1, by simpa using this.2⟩
      have htailno := tail_waits hsink hchain (by simpa using hn) inv _ i0 rfl hi0 hun0
      rw [show m + 1 + (l.length - nf) = (m + (l.length - nf)) + 1 by omega]
      refine ⟨fun hnil => ?_, fun i hi => ?_⟩
      · -- the least one is ready
        exfalso
        have hex : ∃ i, i < nf ∧ listed.getD i true = false ∧ ∀ j, j < i → listed.getD j true = true := by
          have : ∀ k i, i ≤ k → i < nf → listed.getD i true = false → ∃ i, i < nf ∧ listed.getD i true = false ∧ ∀ j, j < i → listed.getD j true = true := by
            intro k
            induction k with
            | zero => intro i hi hin hun; exact ⟨i, hin, hun, fun j hj => by omega⟩
            | succ k ihk =>
              intro i hi hin hun
              by_cases hsm : ∃ j, j < i ∧ listed.getD j true = false
              · obtain ⟨j, hj, hju⟩ := hsm
                exact ihk j (by omega) (by omega) hju
              · refine ⟨i, hin, hun, fun j hj => ?_⟩
                cases hjl : listed.getD j true with
                | true => rfl
                | false => exact absurd ⟨j, hj, hjl⟩ hsm
          exact this i0 i0 (Nat.le_refl _) hi0 hun0
        obtain ⟨i, hin, hun, hleast⟩ := hex
        have hio : ∃ o, l[i]? = some o := ⟨_, List.getElem?_eq_getElem (by omega)⟩
        obtain ⟨o, ho⟩ := hio
        have : i ∈ Region.ready .any l.toArray listed := mem_ready.2 ⟨hun, o, by simpa using ho, fun e he hb => by
          have := hfwd' i o hin ho e (by simpa using he) hb
          have h2 := hleast e.on this
          have h3 : e.on < listed.size := by omega
          simp [h3] at h2 ⊢; exact h2⟩
        rw [hnil] at this
        cases this
      · have hin : i < nf := by
          rcases Nat.lt_or_ge i nf with h | h
          · exact h
          · exact absurd hi (htailno i h)
        obtain ⟨hun, o, ho, hpre⟩ := mem_ready.1 hi
        have ho' : l[i]? = some o := by simpa using ho
        have hstep := steps.get i o (by rw [List.getElem?_take_of_lt hin]; exact ho')
        rw [Nat.zero_add] at hstep
        have hnl : ∀ s, listed.getD s false = true → i ≠ s := fun s hsl e => by
          subst e
          have h3 : i < listed.size := by omega
          simp [h3] at hun hsl; rw [hun] at hsl; cases hsl
        have hk : stage turns listed ∈ stagesOf turns lates afts i := by
          unfold stagesOf
          rw [List.mem_filter]
          refine ⟨List.mem_range.2 (by have := stage_le turns listed; omega), ?_⟩
          rw [Bool.and_eq_true, Bool.and_eq_true]
          refine ⟨⟨?_, ?_⟩, ?_⟩
          · cases hk : stage turns listed with
            | zero => rfl
            | succ k =>
              obtain ⟨s, hs, hsl⟩ := stage_done (turns := turns) (listed := listed) k (by omega)
              rw [Bool.or_eq_true]; right
              rw [Nat.add_sub_cancel]
              refine Decidable.byContradiction fun hnc => ?_
              have := lateB_listed (hlate' k s hs) inv hsl nf i (by omega) hin (hnl s hsl) (by simpa using hnc)
              exact hnl i this rfl
          · cases hx : turns.idxOf? i with
            | none => rfl
            | some j =>
              simp only [beq_iff_eq]
              have hj : turns[j]? = some i := by
                have := List.findIdx?_eq_some_iff_getElem.1 (show turns.findIdx? (· == i) = some j from hx)
                obtain ⟨h1, h2, _⟩ := this
                rw [List.getElem?_eq_getElem h1]
                have h2 : (turns[j] == i) = true := h2
                rw [beq_iff_eq] at h2; rw [h2]
              rcases Nat.lt_trichotomy j (stage turns listed) with h1 | h1 | h1
              · obtain ⟨s, hs, hsl⟩ := stage_done (turns := turns) (listed := listed) j h1
                rw [hj] at hs; injection hs with hs
                exact absurd hs (hnl s hsl)
              · exact h1
              · exfalso
                obtain ⟨j', rfl⟩ : ∃ j', j = j' + 1 := ⟨j - 1, by omega⟩
                have hjl : j' < turns.length := by have := (List.getElem?_eq_some_iff.1 hj).1; omega
                have all : ∀ m, stage turns listed + m ≤ j' → ∀ s, turns[j' - m]? = some s → listed.getD s false = true := by
                  intro m
                  induction m with
                  | zero =>
                    intro _ s hs
                    obtain ⟨e, he, h5, h6⟩ := hnext' j' s i hs hj o ho'
                    have := hpre e (by simpa using he) h6
                    rw [h5] at this; exact this
                  | succ m ihm =>
                    intro hm s hs
                    have hlt2 : j' - m < turns.length := by omega
                    obtain ⟨s', hs'⟩ : ∃ s', turns[j' - m]? = some s' := ⟨_, List.getElem?_eq_getElem hlt2⟩
                    have hl' := ihm (by omega) s' hs'
                    have hs'n := hlt' _ _ hs'
                    obtain ⟨o', ho2⟩ : ∃ o', l[s']? = some o' := ⟨_, List.getElem?_eq_getElem (by omega)⟩
                    obtain ⟨e, he, h5, h6⟩ := hnext' (j' - (m + 1)) s s' hs (by rw [show j' - (m + 1) + 1 = j' - m by omega]; exact hs') o' ho2
                    have := inv.closed s' o' (by simpa using ho2) hl' e he h6
                    rw [h5] at this; exact this
                obtain ⟨s, hs⟩ : ∃ s, turns[stage turns listed]? = some s := ⟨_, List.getElem?_eq_getElem (by omega)⟩
                exact stage_next hs (all (j' - stage turns listed) (by omega) s (by rw [show j' - (j' - stage turns listed) = stage turns listed by omega]; exact hs))
          · rw [List.all_eq_true]
            intro j hj
            rw [List.mem_range] at hj
            rw [Bool.or_eq_true, decide_eq_true_eq]
            refine Decidable.byContradiction fun hnc => ?_
            have h1 := not_or.1 hnc
            have hia : i ∈ afts.getD j [] := by simpa using h1.2
            obtain ⟨s, hs⟩ : ∃ s, turns[j]? = some s := ⟨_, List.getElem?_eq_getElem hj⟩
            have hsl := aft_listed (haft' j s hs) inv hfwd' i hia (fun o1 ho1 e he hb => by
              rw [ho'] at ho1; injection ho1 with ho1; subst ho1
              exact hpre e (by simpa using he) hb)
            -- all ahead of s are listed as well
            have all : ∀ m, stage turns listed + m ≤ j → ∀ s', turns[j - m]? = some s' → listed.getD s' false = true := by
              intro m
              induction m with
              | zero => intro _ s' hs'; rw [Nat.sub_zero, hs] at hs'; injection hs' with hs'; rw [← hs']; exact hsl
              | succ m ihm =>
                intro hm s' hs'
                have hlt2 : j - m < turns.length := by omega
                obtain ⟨s2, hs2⟩ : ∃ s2, turns[j - m]? = some s2 := ⟨_, List.getElem?_eq_getElem hlt2⟩
                have hl2 := ihm (by omega) s2 hs2
                have hs2n := hlt' _ _ hs2
                obtain ⟨o2, ho2⟩ : ∃ o2, l[s2]? = some o2 := ⟨_, List.getElem?_eq_getElem (by omega)⟩
                obtain ⟨e, he, h5, h6⟩ := hnext' (j - (m + 1)) s' s2 hs' (by rw [show j - (m + 1) + 1 = j - m by omega]; exact hs2) o2 ho2
                have := inv.closed s2 o2 (by simpa using ho2) hl2 e he h6
                rw [h5] at this; exact this
            obtain ⟨s3, hs3⟩ : ∃ s3, turns[stage turns listed]? = some s3 := ⟨_, List.getElem?_eq_getElem (by omega)⟩
            exact stage_next hs3 (all (j - stage turns listed) (by omega) s3 (by rw [show j - (j - stage turns listed) = stage turns listed by omega]; exact hs3))
        have hpost : stage turns (listed.setIfInBounds i true) = if turns[stage turns listed]? = some i then stage turns listed + 1 else stage turns listed := by
          have hisz : i < listed.size := by omega
          split
          · rename_i hti
            refine stage_of (fun j hj => ?_) (fun s hs => ?_)
            · rcases Nat.lt_or_ge j (stage turns listed) with h1 | h1
              · obtain ⟨s, hs, hsl⟩ := stage_done (turns := turns) (listed := listed) j h1
                exact ⟨s, hs, by rw [getD_set_ne false (hnl s hsl)]; exact hsl⟩
              · have : j = stage turns listed := by omega
                subst this
                exact ⟨i, hti, by simp [hisz]⟩
            · have hne : i ≠ s := fun e => by
                subst e
                have h1 := (List.getElem?_eq_some_iff.1 hs)
                have h2 := (List.getElem?_eq_some_iff.1 hti)
                obtain ⟨a1, a2⟩ := h1
                obtain ⟨b1, b2⟩ := h2
                have := List.pairwise_iff_getElem.1 hnd _ _ b1 a1 (Nat.lt_succ_self _)
                exact this (b2.trans a2.symm)
              rw [getD_set_ne false hne]
              intro hsl
              obtain ⟨o', ho2⟩ : ∃ o', l[s]? = some o' := ⟨_, List.getElem?_eq_getElem (by have := hlt' _ _ hs; omega)⟩
              obtain ⟨e, he, h5, h6⟩ := hnext' _ i s hti hs o' ho2
              have := inv.closed s o' (by simpa using ho2) hsl e he h6
              rw [h5] at this
              exact hnl i this rfl
          · rename_i hti
            refine stage_of (fun j hj => ?_) (fun s hs => ?_)
            · obtain ⟨s, hs, hsl⟩ := stage_done (turns := turns) (listed := listed) j hj
              exact ⟨s, hs, by rw [getD_set_ne false (hnl s hsl)]; exact hsl⟩
            · have hne : i ≠ s := fun e => hti (by rw [e]; exact hs)
              rw [getD_set_ne false hne]; exact stage_next hs
        have hstep := hstep _ hk
        have hwl := hstep r w' h' hle hS' hsat (PF.of fun e he d hd => by
          unfold bindL at he
          rw [List.mem_filter] at he
          have he' : e ∈ o.after := by simpa using he.1
          have k1 := hfwd' i o hin ho' e he' he.2
          exact hfacts e.on (by omega) (hpre e (by simpa using he') he.2) d hd) a hf
        have hop : wpOp P l.toArray (lift n ds Q) i (fun a' w'' => ∃ r', Fits n ds r' a' ∧ ∃ v h'', r' = putd n r o.dst v ∧ h'.le h'' ∧ Fs.getD i (fun _ _ => True) h'' v ∧ J (if turns[stage turns listed]? = some i then stage turns listed + 1 else stage turns listed) h'' r' w'') a w' := by
          unfold wpOp
          rw [ho]
          simp only
          unfold wpList at hwl
          have noout : ¬ LetsOut (lift n ds fun e r' w'' => e = .normal ∧ ∃ v h'', r' = putd n r o.dst v ∧ h'.le h'' ∧ Fs.getD i (fun _ _ => True) h'' v ∧ J (if turns[stage turns listed]? = some i then stage turns listed + 1 else stage turns listed) h'' r' w'') := fun ⟨_, _, _, _, hh, _⟩ => by cases hh
          split
          · rename_i hw
            rw [if_pos hw] at hwl
            left
            rcases hwl with hwl | ⟨_, hwl⟩
            · have hq : ∀ (x : Result Next), o.upon P a (wpList P l.toArray (lift n ds fun e r' w'' => e = .normal ∧ ∃ v h'', r' = putd n r o.dst v ∧ h'.le h'' ∧ Fs.getD i (fun _ _ => True) h'' v ∧ J (if turns[stage turns listed]? = some i then stage turns listed + 1 else stage turns listed) h'' r' w'') []) (lift n ds fun e r' w'' => e = .normal ∧ ∃ v h'', r' = putd n r o.dst v ∧ h'.le h'' ∧ Fs.getD i (fun _ _ => True) h'' v ∧ J (if turns[stage turns listed]? = some i then stage turns listed + 1 else stage turns listed) h'' r' w'') x →
                  o.upon P a (fun a' w'' => ∃ r', Fits n ds r' a' ∧ ∃ v h'', r' = putd n r o.dst v ∧ h'.le h'' ∧ Fs.getD i (fun _ _ => True) h'' v ∧ J (if turns[stage turns listed]? = some i then stage turns listed + 1 else stage turns listed) h'' r' w'') (lift n ds Q) x := by
                have conv : ∀ a' w'', wpList P l.toArray (lift n ds fun e r' w'' => e = .normal ∧ ∃ v h'', r' = putd n r o.dst v ∧ h'.le h'' ∧ Fs.getD i (fun _ _ => True) h'' v ∧ J (if turns[stage turns listed]? = some i then stage turns listed + 1 else stage turns listed) h'' r' w'') [] a' w'' →
                    ∃ r', Fits n ds r' a' ∧ ∃ v h'', r' = putd n r o.dst v ∧ h'.le h'' ∧ Fs.getD i (fun _ _ => True) h'' v ∧ J (if turns[stage turns listed]? = some i then stage turns listed + 1 else stage turns listed) h'' r' w'' := fun a' w'' ⟨r', k1, _, k2⟩ => ⟨r', k1, k2⟩
                intro x hx
                cases x with
                | halt hh w'' => cases hh <;> first | exact hx.elim | exact (let ⟨_, _, hc, _⟩ := hx; by cases hc)
                | ok y w'' =>
                  cases y with
                  | value v => exact conv _ _ hx
                  | skip => exact conv _ _ hx
                  | defer d => exact conv _ _ hx
                  | enter f args =>
                    refine Calls.mono hx fun e w3 he => ?_
                    cases e with
                    | returned v => exact conv _ _ he
                    | panicked c => exact let ⟨_, _, hc, _⟩ := he; by cases hc
                    | outgrown => exact absurd he noout
                  | row row args => exact Rows.mono hx fun v w3 hv => conv _ _ hv
                  | _ => exact hx.elim
              exact hq _ hwl
            · exact absurd hwl noout
          · rename_i hw
            rw [if_neg hw] at hwl
            obtain ⟨r', k1, _, k2⟩ := hwl
            exact ⟨r', k1, k2⟩
        refine wpOp_mono (fun a' w'' hh => ?_) hop
        obtain ⟨r', hf', v, h'', hr', hle', hF, hS''⟩ := hh
        refine ih _ a' w'' (inv.set hi hin) ?_ ⟨r', h'', hf', hle.trans hle', (by rw [hpost]; exact hS''), ?_, ?_⟩
        · -- one less
          have hmem : i ∈ (List.range nf).filter fun j => !listed.getD j true := by rw [List.mem_filter]; exact ⟨List.mem_range.2 hin, by simp [hun]⟩
          have hnd : ((List.range nf).filter fun j => !listed.getD j true).Nodup := List.nodup_range.filter _
          have heq : ((List.range nf).filter fun j => !(listed.setIfInBounds i true).getD j true) = (((List.range nf).filter fun j => !listed.getD j true)).erase i := by
            rw [hnd.erase_eq_filter, List.filter_filter]
            apply List.filter_congr
            intro j hj
            by_cases hij : i = j
            · subst hij
              have hjs : i < listed.size := by omega
              simp [hjs]
            · rw [getD_set_ne true hij]
              simp [Ne.symm hij]
          rw [heq, List.length_erase_of_mem hmem, hcnt]
          rfl
        · rw [hr']
          exact sat_putd (fun k hk => (hdst' i k hin (by simp [dstOf, ho', hk])).2.1) hsat
        · intro j hj hlj d hd
          rw [hr']
          by_cases hij : i = j
          · subst hij
            have hod : o.dst = some d := by simpa [dstOf, ho'] using hd
            rw [hod]
            show Fs.getD i (fun _ _ => True) h'' (upd n r d v d)
            rw [upd_eq, if_pos ⟨rfl, (hdst' i d hin hd).1⟩]
            exact hF
          · rw [getD_set_ne false hij] at hlj
            have h0 := hmono j h' h'' (r d) hle' (hfacts j hj hlj d hd)
            have hne : putd n r o.dst v d = r d := by
              cases hod : o.dst with
              | none => rfl
              | some d' =>
                show upd n r d' v d = r d
                rw [upd_eq, if_neg]
                rintro ⟨e1, _⟩
                subst e1
                exact hij ((hdst' i d hin (by simp [dstOf, ho', hod])).2.2 j hj hd)
            rw [hne]
            exact h0
  have hcnt0 : ((List.range nf).filter fun i => !(Array.replicate l.toArray.size false).getD i true).length = nf := by
    have : ((List.range nf).filter fun i => !(Array.replicate l.toArray.size false).getD i true) = List.range nf := by
      rw [List.filter_eq_self]
      intro i hi
      have hi' := List.mem_range.1 hi
      have : i < l.length := by omega
      simp [this]
    rw [this]; simp
  have hinv0 : HeadInv .any l.toArray nf (Array.replicate l.toArray.size false) :=
    ⟨by simp, fun j oj _ hl => (by rw [getD_replicate_false] at hl; cases hl), fun t _ ht => getD_in (by simpa using ht) (getD_replicate_false _ _)⟩
  have := key nf _ a { w with drawn := w.drawn + 1 } hinv0 hcnt0 ⟨r, h, ha, Hp.le_refl h, (by rw [show stage turns (Array.replicate l.toArray.size false) = 0 from stage_of (fun j hj => by omega) (fun s _ => by rw [getD_replicate_false]; simp)]; exact hJ0 _ _ _ _ (ext_drew w) hS), hbase, fun j _ hl => (by rw [getD_replicate_false] at hl; cases hl)⟩
  rwa [show nf + (l.length - nf) = l.toArray.size by simp; omega] at this
end Go.Eng
