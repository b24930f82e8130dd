/- A region that draws its order, one operation of whose head turns a chunk. No condition. -/
import Derived.Test.YtcnhcckbdmjdiaaGreatDoorEng12
import Derived.Test.YtcnhcckbdmjdiaaGreatDoorEng6
set_option linter.all false
set_option linter.unusedSimpArgs false
set_option linter.unusedVariables false
namespace Go.Eng
open Go
section
variable {G : World → Prop} (P : Program) (n : Nat) (ds : List Deferred) (l : List Oper) (h : Hp) (base : List (Nat × Value)) (Fs : FactL)
def StepG (o : Oper) (i : Nat) (Pre Post : Hp → (Nat → Value) → World → Prop) : Prop :=
  ∀ r w h', h.le h' → Pre h' r w → Sat r base → PF l Fs h' r o.after.toList →
    WL P n ds l [o] (fun e r' w' => e = .normal ∧ ∃ v h'', r' = putd n r o.dst v ∧ h'.le h'' ∧ Fs.getD i (fun _ _ => True) h'' v ∧ Post h'' r' w') r w
def Step2 (s dd : Nat) (late : List Nat) (J0 : Hp → World → Prop) (J1 : Hp → Value → World → Prop) (o : Oper) (i : Nat) : Prop :=
  ((if i = s then StepG P n ds l h base Fs o i (fun h _ w => J0 h w) (fun h r w => J1 h (r dd) w)
      else StepG P n ds l h base Fs o i (fun h _ w => J0 h w) (fun h _ w => J0 h w)) ∧ (i ∈ late → StepG P n ds l h base Fs o i (fun h r w => J1 h (r dd) w) (fun h r w => J1 h (r dd) w)))
/-- operation s turns the state; those of 'late' may stand behind it as well -/
def Steps2 (s dd : Nat) (late : List Nat) (J0 : Hp → World → Prop) (J1 : Hp → Value → World → Prop) : List Oper → Nat → Prop
  | [], _ => True
  | o :: os, i => Step2 P n ds l h base Fs s dd late J0 J1 o i ∧ Steps2 s dd late J0 J1 os (i + 1)
end
theorem Steps2.get {P : Program} {n : Nat} {ds : List Deferred} {l : List Oper} {h : Hp} {base : List (Nat × Value)} {Fs : FactL} {s dd : Nat} {late : List Nat} {J0 : Hp → World → Prop} {J1 : Hp → Value → World → Prop} :
    ∀ {os : List Oper} {k : Nat}, Steps2 P n ds l h base Fs s dd late J0 J1 os k → ∀ j o, os[j]? = some o →
      (k + j = s → StepG P n ds l h base Fs o (k + j) (fun h _ w => J0 h w) (fun h r w => J1 h (r dd) w)) ∧ (k + j ≠ s → StepG P n ds l h base Fs o (k + j) (fun h _ w => J0 h w) (fun h _ w => J0 h w)) ∧
      (k + j ∈ late → StepG P n ds l h base Fs o (k + j) (fun h r w => J1 h (r dd) w) (fun h r w => J1 h (r dd) w))
  | [], _, _, j, o, hj => by simp at hj
  | o' :: os, k, ⟨⟨s1, s3⟩, s2⟩, j, o, hj => by
    cases j with
    | zero =>
      simp at hj; subst hj
      refine ⟨fun hk => ?_, fun hk => ?_, s3⟩
      · rw [Nat.add_zero] at hk; rw [if_pos hk] at s1; exact s1
      · rw [Nat.add_zero] at hk; rw [if_neg hk] at s1; exact s1
    | succ j =>
      have := Steps2.get s2 j o (by simpa using hj)
      rwa [show k + 1 + j = k + (j + 1) by omega] at this
section
variable {G : World → Prop} {P : Program} {n : Nat} {ds : List Deferred} {l : List Oper} {h : Hp} {base : List (Nat × Value)} {Fs : FactL} {s dd : Nat} {late : List Nat} {J0 : Hp → World → Prop} {J1 : Hp → Value → World → Prop} {o : Oper} {i : Nat}
theorem step2_pre (h1 : i ≠ s) (h2 : i ∉ late) (k : StepG P n ds l h base Fs o i (fun h _ w => J0 h w) (fun h _ w => J0 h w)) : Step2 P n ds l h base Fs s dd late J0 J1 o i := by
  unfold Step2; rw [if_neg h1]; exact ⟨k, fun hh => absurd hh h2⟩
theorem step2_late (h1 : i ≠ s) (k : StepG P n ds l h base Fs o i (fun h _ w => J0 h w) (fun h _ w => J0 h w)) (k2 : StepG P n ds l h base Fs o i (fun h r w => J1 h (r dd) w) (fun h r w => J1 h (r dd) w)) : Step2 P n ds l h base Fs s dd late J0 J1 o i := by
  unfold Step2; rw [if_neg h1]; exact ⟨k, fun _ => k2⟩
theorem step2_s (h2 : s ∉ late) (k : StepG P n ds l h base Fs o s (fun h _ w => J0 h w) (fun h r w => J1 h (r dd) w)) : Step2 P n ds l h base Fs s dd late J0 J1 o s := by
  unfold Step2; rw [if_pos rfl]; exact ⟨k, fun hh => absurd hh h2⟩
end
/-- what is not late stands ahead of s -/
def lateB (nf s : Nat) (late : List Nat) (l : List Oper) : Bool :=
  (List.range nf).all fun i => i == s || late.contains i || (List.range nf).any fun q => decide (i < q) && (q == s || !late.contains q) && (((l[q]?).map fun o => o.after.any fun e => e.on == i && Region.binds .any e).getD false)
theorem lateB_listed {nf s : Nat} {late : List Nat} {l : List Oper} {listed : Array Bool} (hB : lateB nf s late l = true) (inv : HeadInv .any l.toArray nf listed) (hs : listed.getD s false = true) :
    ∀ k i, nf ≤ i + k → i < nf → i ≠ s → i ∉ late → listed.getD i false = true := by
  intro k
  induction k with
  | zero => intro i h1 h2; omega
  | succ k ih =>
    intro i h1 h2 h3 h4
    have := List.all_eq_true.1 hB i (List.mem_range.2 h2)
    simp only [Bool.or_eq_true, beq_iff_eq, List.any_eq_true, List.mem_range, Bool.and_eq_true, decide_eq_true_eq, Bool.not_eq_true', List.contains_eq_mem] at this
    rcases this with (h5 | h5) | ⟨q, hq, ⟨hiq, hqs⟩, hqe⟩
    · exact absurd h5 h3
    · exact absurd h5 h4
    · have hql : listed.getD q false = true := by
        by_cases hq' : q = s
        · rw [hq']; exact hs
        · refine ih q (by omega) hq hq' ?_
          rcases hqs with hqs | hqs
          · exact absurd hqs hq'
          · simpa using hqs
      cases ho : l[q]? with
      | none => rw [ho] at hqe; cases hqe
      | some o =>
        rw [ho] at hqe
        simp only [Option.map_some, Option.getD_some, Array.any_eq_true'] at hqe
        obtain ⟨e, he, hb⟩ := hqe
        simp only [Bool.and_eq_true, beq_iff_eq] at hb
        have := inv.closed q o (by simpa using ho) hql e he hb.2
        rwa [hb.1] at this
theorem WC.draw2 {P : Program} {n : Nat} {ds : List Deferred} {l : List Oper} {h : Hp} {J0 : Hp → World → Prop} {J1 : Hp → Value → World → Prop} {Q : Qr} {r : Nat → Value} {w : World} {id : Nat}
    (nf s dd : Nat) (late : List Nat) (base : List (Nat × Value)) (Fs : FactL) (hS : J0 h w) (hJ0 : ∀ h w w', Ext w w' → J0 h w → J0 h w') (hsd : dstOf l s = some dd) (hsn : s < nf) (hlate : lateB nf s late l = true) (hm : P.follows .mixedOrders = true) (hB : drawB n nf l (base.map (·.1)) = true) (hmono : MonoFs Fs) (hbase : Sat r base)
    (steps : Steps2 P n ds l h base Fs s dd late J0 J1 (l.take nf) 0)
    (tail : ∀ r w h', h.le h' → J1 h' (r dd) w → Sat r base → AF Fs h' r (l.take nf) 0 → WL P n ds l (l.drop nf) Q r w) : WC P n ds (.region id l.toArray true) Q r w := by
  intro a ha
  refine wp_region_any hm ?_
  simp only [drawB, Bool.and_eq_true, decide_eq_true_eq] at hB
  obtain ⟨⟨⟨⟨⟨hn, hsink⟩, hchain⟩, hseq⟩, hfwd⟩, hdst⟩ := hB
  have hfwd' : ∀ i o, i < nf → l[i]? = some o → ∀ e ∈ o.after, e.on < i ∧ Region.binds .any e = true := by
    intro i o hi ho e he
    have := List.all_eq_true.1 hfwd i (List.mem_range.2 hi)
    rw [ho] at this
    simp only [Option.map_some, Option.getD_some, Array.all_eq_true_iff_forall_mem] at this
    have h2 := this e he
    simp only [Bool.and_eq_true, decide_eq_true_eq] at h2
    exact h2
  have hdst' : ∀ i d, i < nf → dstOf l i = some d → d < n ∧ d ∉ base.map (·.1) ∧ ∀ j, j < nf → dstOf l j = some d → i = j := by
    intro i d hi hd
    have := List.all_eq_true.1 hdst i (List.mem_range.2 hi)
    rw [hd] at this
    simp only [Bool.and_eq_true, decide_eq_true_eq, Bool.not_eq_true'] at this
    obtain ⟨⟨k1, k2⟩, k3⟩ := this
    refine ⟨k1, by simpa using k2, fun j hj hdj => ?_⟩
    have := List.all_eq_true.1 k3 j (List.mem_range.2 hj)
    rw [hdj] at this
    simpa using this
  -- the invariant
  have key : ∀ (m : Nat) (listed : Array Bool) (a : Act) (w' : World), HeadInv .any l.toArray nf listed →
      ((List.range nf).filter fun i => !listed.getD i true).length = m →
      (∃ r h', Fits n ds r a ∧ h.le h' ∧ (if listed.getD s false = true then J1 h' (r dd) w' else J0 h' w') ∧ Sat r base ∧ ∀ j, j < nf → listed.getD j false = true → ∀ d, dstOf l j = some d → Fs.getD j (fun _ _ => True) h' (r d)) →
      wpAny P .any l.toArray (lift n ds Q) (m + (l.length - nf)) listed a w' := by
    intro m
    induction m with
    | zero =>
      rintro listed a w' inv hcnt ⟨r, h', hf, hle, hS', hsat, hfacts⟩
      have hall : ∀ i, i < nf → listed.getD i true = true := by
        intro i hi
        have h0 := List.eq_nil_of_length_eq_zero hcnt
        rw [List.filter_eq_nil_iff] at h0
        have := h0 i (List.mem_range.2 hi)
        simpa using this
      have hsz := inv.size
      simp only [List.size_toArray] at hsz
      have hcan := count_unlisted listed nf hall (by omega) (fun t h1 h2 => inv.tail t h1 (by simp; omega))
      rw [hsz] at hcan
      rw [Nat.zero_add]
      have htl : (l.drop nf).length = l.length - nf := by simp
      rw [← htl]
      refine wpAny_of_seq (l.drop nf) nf listed a w' (fun j => by simp) (by rw [htl, hcan]; exact hseq) ?_
      have hsl : listed.getD s false = true := by
        have := hall s hsn
        have hjs : s < listed.size := by omega
        simp [hjs] at this ⊢; exact this
      rw [if_pos hsl] at hS'
      refine tail r w' h' hle hS' hsat (AF.of fun j o d hj hd => ?_) a hf
      have hj' : j < nf := by
        rcases Nat.lt_or_ge j nf with h | h
        · exact h
        · rw [List.getElem?_take, if_neg (by omega)] at hj; cases hj
      rw [List.getElem?_take_of_lt hj'] at hj
      have hd' : dstOf l j = some d := by simp [dstOf, hj, hd]
      have hlj : listed.getD j false = true := by
        have := hall j hj'
        have hjs : j < listed.size := by omega
        simp [hjs] at this ⊢; exact this
      rw [Nat.zero_add]
      exact hfacts j hj' hlj d hd'
    | succ m ih =>
      rintro listed a w' inv hcnt ⟨r, h', hf, hle, hS', hsat, hfacts⟩
      have hsz := inv.size
      simp only [List.size_toArray] at hsz
      -- some head operation is not listed
      obtain ⟨i0, hi0, hun0⟩ : ∃ i0, i0 < nf ∧ listed.getD i0 true = false := by
        cases hfl : (List.range nf).filter fun i => !listed.getD i true with
        | nil => rw [hfl] at hcnt; cases hcnt
        | cons x xs =>
          have : x ∈ (List.range nf).filter fun i => !listed.getD i true := by rw [hfl]; simp
          rw [List.mem_filter, List.mem_range] at this
          exact ⟨x, this.1, by simpa using this.2⟩
      have htailno := tail_waits hsink hchain (by simpa using hn) inv _ i0 rfl hi0 hun0
      rw [show m + 1 + (l.length - nf) = (m + (l.length - nf)) + 1 by omega]
      refine ⟨fun hnil => ?_, fun i hi => ?_⟩
      · -- the least one is ready
        exfalso
        have hex : ∃ i, i < nf ∧ listed.getD i true = false ∧ ∀ j, j < i → listed.getD j true = true := by
          have : ∀ k i, i ≤ k → i < nf → listed.getD i true = false → ∃ i, i < nf ∧ listed.getD i true = false ∧ ∀ j, j < i → listed.getD j true = true := by
            intro k
            induction k with
            | zero => intro i hi hin hun; exact ⟨i, hin, hun, fun j hj => by omega⟩
            | succ k ihk =>
              intro i hi hin hun
              by_cases hsm : ∃ j, j < i ∧ listed.getD j true = false
              · obtain ⟨j, hj, hju⟩ := hsm
                exact ihk j (by omega) (by omega) hju
              · refine ⟨i, hin, hun, fun j hj => ?_⟩
                cases hjl : listed.getD j true with
                | true => rfl
                | false => exact absurd ⟨j, hj, hjl⟩ hsm
          exact this i0 i0 (Nat.le_refl _) hi0 hun0
        obtain ⟨i, hin, hun, hleast⟩ := hex
        have hio : ∃ o, l[i]? = some o := ⟨_, List.getElem?_eq_getElem (by omega)⟩
        obtain ⟨o, ho⟩ := hio
        have : i ∈ Region.ready .any l.toArray listed := mem_ready.2 ⟨hun, o, by simpa using ho, fun e he _ => by
          have := (hfwd' i o hin ho e he).1
          have h2 := hleast e.on this
          have h3 : e.on < listed.size := by omega
          simp [h3] at h2 ⊢; exact h2⟩
        rw [hnil] at this
        cases this
      · have hin : i < nf := by
          rcases Nat.lt_or_ge i nf with h | h
          · exact h
          · exact absurd hi (htailno i h)
        obtain ⟨hun, o, ho, hpre⟩ := mem_ready.1 hi
        have ho' : l[i]? = some o := by simpa using ho
        have hstep := steps.get i o (by rw [List.getElem?_take_of_lt hin]; exact ho')
        rw [Nat.zero_add] at hstep
        have hPP : ∃ Pre Post, StepG P n ds l h base Fs o i Pre Post ∧ Pre h' r w' ∧ ∀ h'' r' w'' v, r' = putd n r o.dst v → Post h'' r' w'' → (if (listed.setIfInBounds i true).getD s false = true then J1 h'' (r' dd) w'' else J0 h'' w'') := by
          by_cases hsl : listed.getD s false = true
          · rw [if_pos hsl] at hS'
            have his : i ≠ s := fun e => by
              subst e
              have h3 : i < listed.size := by omega
              simp [h3] at hun hsl; rw [hun] at hsl; cases hsl
            have hil : i ∈ late := Decidable.byContradiction fun hnl => by
              have h1 := lateB_listed hlate inv hsl nf i (by omega) hin his hnl
              have h3 : i < listed.size := by omega
              simp [h3] at hun h1; rw [hun] at h1; cases h1
            refine ⟨_, _, hstep.2.2 hil, hS', fun h'' r' w'' v hr hp => ?_⟩
            rw [getD_set_ne false his, if_pos hsl]; exact hp
          · rw [if_neg hsl] at hS'
            by_cases his : i = s
            · refine ⟨_, _, hstep.1 his, hS', fun h'' r' w'' v hr hp => ?_⟩
              have h3 : s < listed.size := by omega
              rw [his, if_pos (by simp [h3])]; exact hp
            · refine ⟨_, _, hstep.2.1 his, hS', fun h'' r' w'' v hr hp => ?_⟩
              rw [getD_set_ne false his, if_neg hsl]; exact hp
        obtain ⟨Pre, Post, hstep, hpre', hpost⟩ := hPP
        have hwl := hstep r w' h' hle hpre' hsat (PF.of fun e he d hd => by
          have he' : e ∈ o.after := by simpa using he
          obtain ⟨k1, k2⟩ := hfwd' i o hin ho' e he'
          exact hfacts e.on (by omega) (hpre e he' k2) d hd) a hf
        have hop : wpOp P l.toArray (lift n ds Q) i (fun a' w'' => ∃ r', Fits n ds r' a' ∧ ∃ v h'', r' = putd n r o.dst v ∧ h'.le h'' ∧ Fs.getD i (fun _ _ => True) h'' v ∧ Post h'' r' w'') a w' := by
          unfold wpOp
          rw [ho]
          simp only
          unfold wpList at hwl
          have noout : ¬ LetsOut (lift n ds fun e r' w'' => e = .normal ∧ ∃ v h'', r' = putd n r o.dst v ∧ h'.le h'' ∧ Fs.getD i (fun _ _ => True) h'' v ∧ Post h'' r' w'') := fun ⟨_, _, _, _, hh, _⟩ => by cases hh
          split
          · rename_i hw
            rw [if_pos hw] at hwl
            left
            rcases hwl with hwl | ⟨_, hwl⟩
            · have hq : ∀ (x : Result Next), o.upon P a (wpList P l.toArray (lift n ds fun e r' w'' => e = .normal ∧ ∃ v h'', r' = putd n r o.dst v ∧ h'.le h'' ∧ Fs.getD i (fun _ _ => True) h'' v ∧ Post h'' r' w'') []) (lift n ds fun e r' w'' => e = .normal ∧ ∃ v h'', r' = putd n r o.dst v ∧ h'.le h'' ∧ Fs.getD i (fun _ _ => True) h'' v ∧ Post h'' r' w'') x →
                  o.upon P a (fun a' w'' => ∃ r', Fits n ds r' a' ∧ ∃ v h'', r' = putd n r o.dst v ∧ h'.le h'' ∧ Fs.getD i (fun _ _ => True) h'' v ∧ Post h'' r' w'') (lift n ds Q) x := by
                have conv : ∀ a' w'', wpList P l.toArray (lift n ds fun e r' w'' => e = .normal ∧ ∃ v h'', r' = putd n r o.dst v ∧ h'.le h'' ∧ Fs.getD i (fun _ _ => True) h'' v ∧ Post h'' r' w'') [] a' w'' →
                    ∃ r', Fits n ds r' a' ∧ ∃ v h'', r' = putd n r o.dst v ∧ h'.le h'' ∧ Fs.getD i (fun _ _ => True) h'' v ∧ Post h'' r' w'' := fun a' w'' ⟨r', k1, _, k2⟩ => ⟨r', k1, k2⟩
                intro x hx
                cases x with
                | halt hh w'' => cases hh <;> first | exact hx.elim | exact (let ⟨_, _, hc, _⟩ := hx; by cases hc)
                | ok y w'' =>
                  cases y with
                  | value v => exact conv _ _ hx
                  | skip => exact conv _ _ hx
                  | defer d => exact conv _ _ hx
                  | enter f args =>
                    refine Calls.mono hx fun e w3 he => ?_
                    cases e with
                    | returned v => exact conv _ _ he
                    | panicked c => exact let ⟨_, _, hc, _⟩ := he; by cases hc
                    | outgrown => exact absurd he noout
                  | row row args => exact Rows.mono hx fun v w3 hv => conv _ _ hv
                  | _ => exact hx.elim
              exact hq _ hwl
            · exact absurd hwl noout
          · rename_i hw
            rw [if_neg hw] at hwl
            obtain ⟨r', k1, _, k2⟩ := hwl
            exact ⟨r', k1, k2⟩
        refine wpOp_mono (fun a' w'' hh => ?_) hop
        obtain ⟨r', hf', v, h'', hr', hle', hF, hS''⟩ := hh
        refine ih _ a' w'' (inv.set hi hin) ?_ ⟨r', h'', hf', hle.trans hle', hpost h'' r' w'' v hr' hS'', ?_, ?_⟩
        · -- one less
          have hmem : i ∈ (List.range nf).filter fun j => !listed.getD j true := by rw [List.mem_filter]; exact ⟨List.mem_range.2 hin, by simp [hun]⟩
          have hnd : ((List.range nf).filter fun j => !listed.getD j true).Nodup := List.nodup_range.filter _
          have heq : ((List.range nf).filter fun j => !(listed.setIfInBounds i true).getD j true) = (((List.range nf).filter fun j => !listed.getD j true)).erase i := by
            rw [hnd.erase_eq_filter, List.filter_filter]
            apply List.filter_congr
            intro j hj
            by_cases hij : i = j
            · subst hij
              have hjs : i < listed.size := by omega
              simp [hjs]
            · rw [getD_set_ne true hij]
              simp [Ne.symm hij]
          rw [heq, List.length_erase_of_mem hmem, hcnt]
          rfl
        · rw [hr']
          exact sat_putd (fun k hk => (hdst' i k hin (by simp [dstOf, ho', hk])).2.1) hsat
        · intro j hj hlj d hd
          rw [hr']
          by_cases hij : i = j
          · subst hij
            have hod : o.dst = some d := by simpa [dstOf, ho'] using hd
            rw [hod]
            show Fs.getD i (fun _ _ => True) h'' (upd n r d v d)
            rw [upd_eq, if_pos ⟨rfl, (hdst' i d hin hd).1⟩]
            exact hF
          · rw [getD_set_ne false hij] at hlj
            have h0 := hmono j h' h'' (r d) hle' (hfacts j hj hlj d hd)
            have hne : putd n r o.dst v d = r d := by
              cases hod : o.dst with
              | none => rfl
              | some d' =>
                show upd n r d' v d = r d
                rw [upd_eq, if_neg]
                rintro ⟨e1, _⟩
                subst e1
                exact hij ((hdst' i d hin (by simp [dstOf, ho', hod])).2.2 j hj hd)
            rw [hne]
            exact h0
  have hcnt0 : ((List.range nf).filter fun i => !(Array.replicate l.toArray.size false).getD i true).length = nf := by
    have : ((List.range nf).filter fun i => !(Array.replicate l.toArray.size false).getD i true) = List.range nf := by
      rw [List.filter_eq_self]
      intro i hi
      have hi' := List.mem_range.1 hi
      have : i < l.length := by omega
      simp [this]
    rw [this]; simp
  have hinv0 : HeadInv .any l.toArray nf (Array.replicate l.toArray.size false) :=
    ⟨by simp, fun j oj _ hl => (by rw [getD_replicate_false] at hl; cases hl), fun t _ ht => getD_in (by simpa using ht) (getD_replicate_false _ _)⟩
  have := key nf _ a { w with drawn := w.drawn + 1 } hinv0 hcnt0 ⟨r, h, ha, Hp.le_refl h, (by rw [if_neg (by rw [getD_replicate_false]; simp)]; exact hJ0 _ _ _ (ext_drew w) hS), hbase, fun j _ hl => (by rw [getD_replicate_false] at hl; cases hl)⟩
  rwa [show nf + (l.length - nf) = l.toArray.size by simp; omega] at this
end Go.Eng
namespace Go.Eng
open Go
theorem bool_false {e : Bool} (h : e = false) : Value.bool e = .bool false := by rw [h]
end Go.Eng
