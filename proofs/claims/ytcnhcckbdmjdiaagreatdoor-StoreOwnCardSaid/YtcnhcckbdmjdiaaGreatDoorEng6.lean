/- A region that draws its order: its head in any order, its tail in the one that is forced. No condition. -/
import Derived.Test.YtcnhcckbdmjdiaaGreatDoorEng5
import Derived.Orders
import Derived.StillTail
set_option linter.all false
set_option linter.unusedSimpArgs false
set_option linter.unusedVariables false
namespace Go.Eng
open Go
abbrev FactL := List (Hp → Value → Prop)
def dstOf (l : List Oper) (j : Nat) : Option Nat := (l[j]?).bind (·.dst)
/-- what is known of the operations that stand before -/
def PF (l : List Oper) (Fs : FactL) (h : Hp) (r : Nat → Value) : List Edge → Prop
  | [] => True
  | e :: es => (match dstOf l e.on with | some d => Fs.getD e.on (fun _ _ => True) h (r d) | none => True) ∧ PF l Fs h r es
/-- all that the head has laid -/
def AF (Fs : FactL) (h : Hp) (r : Nat → Value) : List Oper → Nat → Prop
  | [], _ => True
  | o :: os, j => (match o.dst with | some d => Fs.getD j (fun _ _ => True) h (r d) | none => True) ∧ AF Fs h r os (j + 1)
section
variable {G : World → Prop} (P : Program) (n : Nat) (ds : List Deferred) (l : List Oper) (Γ : Ctx G) (h : Hp) (L : List HProp) (base : List (Nat × Value)) (Fs : FactL)
def StepOK (o : Oper) (i : Nat) : Prop :=
  ∀ r w h', h.le h' → St Γ h' L w → Sat r base → PF l Fs h' r o.after.toList →
    WL P n ds l [o] (fun e r' w' => e = .normal ∧ ∃ v h'', r' = putd n r o.dst v ∧ h'.le h'' ∧ Fs.getD i (fun _ _ => True) h'' v ∧ St Γ h'' L w') r w
def Steps : List Oper → Nat → Prop
  | [], _ => True
  | o :: os, i => StepOK P n ds l Γ h L base Fs o i ∧ Steps os (i + 1)
end
theorem Steps.get {G : World → Prop} {P : Program} {n : Nat} {ds : List Deferred} {l : List Oper} {Γ : Ctx G} {h : Hp} {L : List HProp} {base : List (Nat × Value)} {Fs : FactL} :
    ∀ {os : List Oper} {k : Nat}, Steps P n ds l Γ h L base Fs os k → ∀ j o, os[j]? = some o → StepOK P n ds l Γ h L base Fs o (k + j)
  | [], _, _, j, o, hj => by simp at hj
  | o' :: os, k, ⟨s1, s2⟩, j, o, hj => by
    cases j with
    | zero => simp at hj; subst hj; exact s1
    | succ j =>
      have := Steps.get s2 j o (by simpa using hj)
      rwa [show k + 1 + j = k + (j + 1) by omega] at this
theorem AF.of {Fs : FactL} {h : Hp} {r : Nat → Value} : ∀ {os : List Oper} {k : Nat}, (∀ j o d, os[j]? = some o → o.dst = some d → Fs.getD (k + j) (fun _ _ => True) h (r d)) → AF Fs h r os k
  | [], _, _ => trivial
  | o :: os, k, H => by
    refine ⟨?_, AF.of fun j o' d hj hd => by have := H (j + 1) o' d (by simpa using hj) hd; rwa [show k + (j + 1) = k + 1 + j by omega] at this⟩
    cases hd : o.dst with
    | none => trivial
    | some d => exact H 0 o d rfl hd
/-- what the head's j-th operation has laid -/
theorem AF.get {Fs : FactL} {h : Hp} {r : Nat → Value} : ∀ {os : List Oper} {k : Nat}, AF Fs h r os k → ∀ (j : Nat) {o : Oper} {d : Nat}, os[j]? = some o → o.dst = some d → Fs.getD (k + j) (fun _ _ => True) h (r d)
  | [], _, _, j, _, _, hj, _ => by simp at hj
  | o' :: os, k, ⟨h1, h2⟩, j, o, d, hj, hd => by
    cases j with
    | zero =>
      simp at hj; subst hj
      rw [hd] at h1; exact h1
    | succ j =>
      have := AF.get h2 j (by simpa using hj) hd
      rwa [show k + 1 + j = k + (j + 1) by omega] at this
theorem PF.of {l : List Oper} {Fs : FactL} {h : Hp} {r : Nat → Value} : ∀ {es : List Edge}, (∀ e ∈ es, ∀ d, dstOf l e.on = some d → Fs.getD e.on (fun _ _ => True) h (r d)) → PF l Fs h r es
  | [], _ => trivial
  | e :: es, H => by
    refine ⟨?_, PF.of fun e' he' => H e' (by simp [he'])⟩
    cases hd : dstOf l e.on with
    | none => trivial
    | some d => exact H e (by simp) d hd
/-- the closed tests of such a region -/
def drawB (n nf : Nat) (l : List Oper) (keys : List Nat) : Bool :=
  decide (nf < l.length) && Region.sinkB .any l.toArray nf && Region.chainB .any l.toArray nf &&
  Region.seqB .any l.toArray (l.length - nf) nf (List.replicate nf true ++ List.replicate (l.length - nf) false).toArray &&
  ((List.range nf).all fun i => ((l[i]?).map fun o => o.after.all fun e => decide (e.on < i) && Region.binds .any e).getD false) &&
  ((List.range nf).all fun i => match dstOf l i with
    | none => true
    | some d => decide (d < n) && !keys.contains d && (List.range nf).all fun j => i == j || !(dstOf l j == some d))
/-- mono facts -/
def MonoFs (Fs : FactL) : Prop := ∀ i h h' v, Hp.le h h' → Fs.getD i (fun _ _ => True) h v → Fs.getD i (fun _ _ => True) h' v
theorem MonoFs.nil : MonoFs [] := fun _ _ _ _ _ _ => by simp
theorem MonoFs.cons {F : Hp → Value → Prop} {Fs : FactL} (hF : ∀ h h' v, Hp.le h h' → F h v → F h' v) (hs : MonoFs Fs) : MonoFs (F :: Fs) := fun i h h' v hl hf => by
  cases i with
  | zero => exact hF h h' v hl hf
  | succ i => exact hs i h h' v hl hf
/-- of a fact that does not speak of memory -/
theorem MonoFs.pure {p : Value → Prop} {Fs : FactL} (hs : MonoFs Fs) : MonoFs ((fun _ v => p v) :: Fs) := MonoFs.cons (fun _ _ _ _ hf => hf) hs
theorem count_unlisted (listed : Array Bool) (nf : Nat) (hall : ∀ i, i < nf → listed.getD i true = true) (hsz : nf ≤ listed.size) (htail : ∀ t, nf ≤ t → t < listed.size → listed.getD t true = false) :
    listed = (List.replicate nf true ++ List.replicate (listed.size - nf) false).toArray := by
  apply Array.ext
  · simp; omega
  · intro i h1 h2
    simp only [List.getElem_toArray, List.getElem_append, List.getElem_replicate, List.length_replicate]
    split
    · rename_i hi
      have := hall i hi
      simpa [h1] using this
    · rename_i hi
      have := htail i (by omega) h1
      simpa [h1] using this
theorem sat_putd {n : Nat} {r : Nat → Value} {d : Option Nat} {v : Value} : ∀ {base : List (Nat × Value)}, (∀ k, d = some k → k ∉ base.map (·.1)) → Sat r base → Sat (putd n r d v) base
  | [], _, _ => trivial
  | (k, u) :: base, hd, ⟨h1, h2⟩ => by
    refine ⟨?_, sat_putd (fun k' hk' hm => hd k' hk' (by simp [hm])) h2⟩
    cases d with
    | none => exact h1
    | some d =>
      show upd n r d v k = u
      rw [upd_eq, if_neg (fun hh => hd d rfl (by simp [hh.1]))]
      exact h1
theorem WC.draw {G : World → Prop} {P : Program} {n : Nat} {ds : List Deferred} {l : List Oper} {Γ : Ctx G} {h : Hp} {L : List HProp} {Q : Qr} {r : Nat → Value} {w : World} {id : Nat}
    (nf : Nat) (base : List (Nat × Value)) (Fs : FactL) (hS : St Γ h L w) (hm : P.follows .mixedOrders = true) (hB : drawB n nf l (base.map (·.1)) = true) (hmono : MonoFs Fs) (hbase : Sat r base)
    (steps : Steps P n ds l Γ h L base Fs (l.take nf) 0)
    (tail : ∀ r w h', h.le h' → St Γ h' L w → Sat r base → AF Fs h' r (l.take nf) 0 → WL P n ds l (l.drop nf) Q r w) : WC P n ds (.region id l.toArray true) Q r w := by
  intro a ha
  refine wp_region_any hm ?_
  simp only [drawB, Bool.and_eq_true, decide_eq_true_eq] at hB
  obtain ⟨⟨⟨⟨⟨hn, hsink⟩, hchain⟩, hseq⟩, hfwd⟩, hdst⟩ := hB
  have hfwd' : ∀ i o, i < nf → l[i]? = some o → ∀ e ∈ o.after, e.on < i ∧ Region.binds .any e = true := by
    intro i o hi ho e he
    have := List.all_eq_true.1 hfwd i (List.mem_range.2 hi)
    rw [ho] at this
    simp only [Option.map_some, Option.getD_some, Array.all_eq_true_iff_forall_mem] at this
    have h2 := this e he
    simp only [Bool.and_eq_true, decide_eq_true_eq] at h2
    exact h2
  have hdst' : ∀ i d, i < nf → dstOf l i = some d → d < n ∧ d ∉ base.map (·.1) ∧ ∀ j, j < nf → dstOf l j = some d → i = j := by
    intro i d hi hd
    have := List.all_eq_true.1 hdst i (List.mem_range.2 hi)
    rw [hd] at this
    simp only [Bool.and_eq_true, decide_eq_true_eq, Bool.not_eq_true'] at this
    obtain ⟨⟨k1, k2⟩, k3⟩ := this
    refine ⟨k1, by simpa using k2, fun j hj hdj => ?_⟩
    have := List.all_eq_true.1 k3 j (List.mem_range.2 hj)
    rw [hdj] at this
    simpa using this
  -- the invariant
  have key : ∀ (m : Nat) (listed : Array Bool) (a : Act) (w' : World), HeadInv .any l.toArray nf listed →
      ((List.range nf).filter fun i => !listed.getD i true).length = m →
      (∃ r h', Fits n ds r a ∧ h.le h' ∧ St Γ h' L w' ∧ Sat r base ∧ ∀ j, j < nf → listed.getD j false = true → ∀ d, dstOf l j = some d → Fs.getD j (fun _ _ => True) h' (r d)) →
      wpAny P .any l.toArray (lift n ds Q) (m + (l.length - nf)) listed a w' := by
    intro m
    induction m with
    | zero =>
      rintro listed a w' inv hcnt ⟨r, h', hf, hle, hS', hsat, hfacts⟩
      have hall : ∀ i, i < nf → listed.getD i true = true := by
        intro i hi
        have h0 := List.eq_nil_of_length_eq_zero hcnt
        rw [List.filter_eq_nil_iff] at h0
        have := h0 i (List.mem_range.2 hi)
        simpa using this
      have hsz := inv.size
      simp only [List.size_toArray] at hsz
      have hcan := count_unlisted listed nf hall (by omega) (fun t h1 h2 => inv.tail t h1 (by simp; omega))
      rw [hsz] at hcan
      rw [Nat.zero_add]
      have htl : (l.drop nf).length = l.length - nf := by simp
      rw [← htl]
      refine wpAny_of_seq (l.drop nf) nf listed a w' (fun j => by simp) (by rw [htl, hcan]; exact hseq) ?_
      refine tail r w' h' hle hS' hsat (AF.of fun j o d hj hd => ?_) a hf
      have hj' : j < nf := by
        rcases Nat.lt_or_ge j nf with h | h
        · exact h
        · rw [List.getElem?_take, if_neg (by omega)] at hj; cases hj
      rw [List.getElem?_take_of_lt hj'] at hj
      have hd' : dstOf l j = some d := by simp [dstOf, hj, hd]
      have hlj : listed.getD j false = true := by
        have := hall j hj'
        have hjs : j < listed.size := by omega
        simp [hjs] at this ⊢; exact this
      rw [Nat.zero_add]
      exact hfacts j hj' hlj d hd'
    | succ m ih =>
      rintro listed a w' inv hcnt ⟨r, h', hf, hle, hS', hsat, hfacts⟩
      have hsz := inv.size
      simp only [List.size_toArray] at hsz
      -- some head operation is not listed
      obtain ⟨i0, hi0, hun0⟩ : ∃ i0, i0 < nf ∧ listed.getD i0 true = false := by
        cases hfl : (List.range nf).filter fun i => !listed.getD i true with
        | nil => rw [hfl] at hcnt; cases hcnt
        | cons x xs =>
          have : x ∈ (List.range nf).filter fun i => !listed.getD i true := by rw [hfl]; simp
          rw [List.mem_filter, List.mem_range] at this
          exact ⟨x, this.1, by simpa using this.2⟩
      have htailno := tail_waits hsink hchain (by simpa using hn) inv _ i0 rfl hi0 hun0
      rw [show m + 1 + (l.length - nf) = (m + (l.length - nf)) + 1 by omega]
      refine ⟨fun hnil => ?_, fun i hi => ?_⟩
      · -- the least one is ready
        exfalso
        have hex : ∃ i, i < nf ∧ listed.getD i true = false ∧ ∀ j, j < i → listed.getD j true = true := by
          have : ∀ k i, i ≤ k → i < nf → listed.getD i true = false → ∃ i, i < nf ∧ listed.getD i true = false ∧ ∀ j, j < i → listed.getD j true = true := by
            intro k
            induction k with
            | zero => intro i hi hin hun; exact ⟨i, hin, hun, fun j hj => by omega⟩
            | succ k ihk =>
              intro i hi hin hun
              by_cases hsm : ∃ j, j < i ∧ listed.getD j true = false
              · obtain ⟨j, hj, hju⟩ := hsm
                exact ihk j (by omega) (by omega) hju
              · refine ⟨i, hin, hun, fun j hj => ?_⟩
                cases hjl : listed.getD j true with
                | true => rfl
                | false => exact absurd ⟨j, hj, hjl⟩ hsm
          exact this i0 i0 (Nat.le_refl _) hi0 hun0
        obtain ⟨i, hin, hun, hleast⟩ := hex
        have hio : ∃ o, l[i]? = some o := ⟨_, List.getElem?_eq_getElem (by omega)⟩
        obtain ⟨o, ho⟩ := hio
        have : i ∈ Region.ready .any l.toArray listed := mem_ready.2 ⟨hun, o, by simpa using ho, fun e he _ => by
          have := (hfwd' i o hin ho e he).1
          have h2 := hleast e.on this
          have h3 : e.on < listed.size := by omega
          simp [h3] at h2 ⊢; exact h2⟩
        rw [hnil] at this
        cases this
      · have hin : i < nf := by
          rcases Nat.lt_or_ge i nf with h | h
          · exact h
          · exact absurd hi (htailno i h)
        obtain ⟨hun, o, ho, hpre⟩ := mem_ready.1 hi
        have ho' : l[i]? = some o := by simpa using ho
        have hstep := steps.get i o (by rw [List.getElem?_take_of_lt hin]; exact ho')
        rw [Nat.zero_add] at hstep
        have hwl := hstep r w' h' hle hS' hsat (PF.of fun e he d hd => by
          have he' : e ∈ o.after := by simpa using he
          obtain ⟨k1, k2⟩ := hfwd' i o hin ho' e he'
          exact hfacts e.on (by omega) (hpre e he' k2) d hd) a hf
        have hop : wpOp P l.toArray (lift n ds Q) i (fun a' w'' => ∃ r', Fits n ds r' a' ∧ ∃ v h'', r' = putd n r o.dst v ∧ h'.le h'' ∧ Fs.getD i (fun _ _ => True) h'' v ∧ St Γ h'' L w'') a w' := by
          unfold wpOp
          rw [ho]
          simp only
          unfold wpList at hwl
          have noout : ¬ LetsOut (lift n ds fun e r' w'' => e = .normal ∧ ∃ v h'', r' = putd n r o.dst v ∧ h'.le h'' ∧ Fs.getD i (fun _ _ => True) h'' v ∧ St Γ h'' L w'') := fun ⟨_, _, _, _, hh, _⟩ => by cases hh
          split
          · rename_i hw
            rw [if_pos hw] at hwl
            left
            rcases hwl with hwl | ⟨_, hwl⟩
            · have hq : ∀ (x : Result Next), o.upon P a (wpList P l.toArray (lift n ds fun e r' w'' => e = .normal ∧ ∃ v h'', r' = putd n r o.dst v ∧ h'.le h'' ∧ Fs.getD i (fun _ _ => True) h'' v ∧ St Γ h'' L w'') []) (lift n ds fun e r' w'' => e = .normal ∧ ∃ v h'', r' = putd n r o.dst v ∧ h'.le h'' ∧ Fs.getD i (fun _ _ => True) h'' v ∧ St Γ h'' L w'') x →
                  o.upon P a (fun a' w'' => ∃ r', Fits n ds r' a' ∧ ∃ v h'', r' = putd n r o.dst v ∧ h'.le h'' ∧ Fs.getD i (fun _ _ => True) h'' v ∧ St Γ h'' L w'') (lift n ds Q) x := by
                have conv : ∀ a' w'', wpList P l.toArray (lift n ds fun e r' w'' => e = .normal ∧ ∃ v h'', r' = putd n r o.dst v ∧ h'.le h'' ∧ Fs.getD i (fun _ _ => True) h'' v ∧ St Γ h'' L w'') [] a' w'' →
                    ∃ r', Fits n ds r' a' ∧ ∃ v h'', r' = putd n r o.dst v ∧ h'.le h'' ∧ Fs.getD i (fun _ _ => True) h'' v ∧ St Γ h'' L w'' := fun a' w'' ⟨r', k1, _, k2⟩ => ⟨r', k1, k2⟩
                intro x hx
                cases x with
                | halt hh w'' => cases hh <;> first | exact hx.elim | exact (let ⟨_, _, hc, _⟩ := hx; by cases hc)
                | ok y w'' =>
                  cases y with
                  | value v => exact conv _ _ hx
                  | skip => exact conv _ _ hx
                  | defer d => exact conv _ _ hx
                  | enter f args =>
                    refine Calls.mono hx fun e w3 he => ?_
                    cases e with
                    | returned v => exact conv _ _ he
                    | panicked c => exact let ⟨_, _, hc, _⟩ := he; by cases hc
                    | outgrown => exact absurd he noout
                  | row row args => exact Rows.mono hx fun v w3 hv => conv _ _ hv
                  | _ => exact hx.elim
              exact hq _ hwl
            · exact absurd hwl noout
          · rename_i hw
            rw [if_neg hw] at hwl
            obtain ⟨r', k1, _, k2⟩ := hwl
            exact ⟨r', k1, k2⟩
        refine wpOp_mono (fun a' w'' hh => ?_) hop
        obtain ⟨r', hf', v, h'', hr', hle', hF, hS''⟩ := hh
        refine ih _ a' w'' (inv.set hi hin) ?_ ⟨r', h'', hf', hle.trans hle', hS'', ?_, ?_⟩
        · -- one less
          have hmem : i ∈ (List.range nf).filter fun j => !listed.getD j true := by rw [List.mem_filter]; exact ⟨List.mem_range.2 hin, by simp [hun]⟩
          have hnd : ((List.range nf).filter fun j => !listed.getD j true).Nodup := List.nodup_range.filter _
          have heq : ((List.range nf).filter fun j => !(listed.setIfInBounds i true).getD j true) = (((List.range nf).filter fun j => !listed.getD j true)).erase i := by
            rw [hnd.erase_eq_filter, List.filter_filter]
            apply List.filter_congr
            intro j hj
            by_cases hij : i = j
            · subst hij
              have hjs : i < listed.size := by omega
              simp [hjs]
            · rw [getD_set_ne true hij]
              simp [Ne.symm hij]
          rw [heq, List.length_erase_of_mem hmem, hcnt]
          rfl
        · rw [hr']
          exact sat_putd (fun k hk => (hdst' i k hin (by simp [dstOf, ho', hk])).2.1) hsat
        · intro j hj hlj d hd
          rw [hr']
          by_cases hij : i = j
          · subst hij
            have hod : o.dst = some d := by simpa [dstOf, ho'] using hd
            rw [hod]
            show Fs.getD i (fun _ _ => True) h'' (upd n r d v d)
            rw [upd_eq, if_pos ⟨rfl, (hdst' i d hin hd).1⟩]
            exact hF
          · rw [getD_set_ne false hij] at hlj
            have h0 := hmono j h' h'' (r d) hle' (hfacts j hj hlj d hd)
            have hne : putd n r o.dst v d = r d := by
              cases hod : o.dst with
              | none => rfl
              | some d' =>
                show upd n r d' v d = r d
                rw [upd_eq, if_neg]
                rintro ⟨e1, _⟩
                subst e1
                exact hij ((hdst' i d hin (by simp [dstOf, ho', hod])).2.2 j hj hd)
            rw [hne]
            exact h0
  have hcnt0 : ((List.range nf).filter fun i => !(Array.replicate l.toArray.size false).getD i true).length = nf := by
    have : ((List.range nf).filter fun i => !(Array.replicate l.toArray.size false).getD i true) = List.range nf := by
      rw [List.filter_eq_self]
      intro i hi
      have hi' := List.mem_range.1 hi
      have : i < l.length := by omega
      simp [this]
    rw [this]; simp
  have hinv0 : HeadInv .any l.toArray nf (Array.replicate l.toArray.size false) :=
    ⟨by simp, fun j oj _ hl => (by rw [getD_replicate_false] at hl; cases hl), fun t _ ht => getD_in (by simpa using ht) (getD_replicate_false _ _)⟩
  have := key nf _ a { w with drawn := w.drawn + 1 } hinv0 hcnt0 ⟨r, h, ha, Hp.le_refl h, hS.ext (ext_drew w), hbase, fun j _ hl => (by rw [getD_replicate_false] at hl; cases hl)⟩
  rwa [show nf + (l.length - nf) = l.toArray.size by simp; omega] at this
end Go.Eng
