/- Frames as functions from slots to values; regions and code over them. No condition. -/
import Derived.Tactics
import Derived.Defers
set_option linter.all false
set_option linter.unusedSimpArgs false
set_option linter.unusedVariables false
namespace Go.Eng
open Go
/-- a slot written -/
def upd (n : Nat) (r : Nat → Value) (d : Nat) (v : Value) : Nat → Value :=
  fun i => bif Nat.beq i d then (bif Nat.blt i n then v else r i) else r i
/-- an operand's value -/
def ev (r : Nat → Value) : Operand → Value
  | .tmp t => r t
  | .const v => v
  | .global g => .pointer (some ⟨g, 0, none⟩)
  | .func f => .func (.func f) #[] #[]
structure Fits (n : Nat) (ds : List Deferred) (r : Nat → Value) (a : Act) : Prop where
  size : a.tmps.size = n
  get : ∀ i, a.tmps.getD i undef = r i
  defers : a.defers = ds
theorem Fits.eval {n ds r a} (h : Fits n ds r a) : a.eval = ev r := by
  funext x
  cases x with
  | tmp t => exact h.get t
  | const v => rfl
  | «global» g => rfl
  | func f => rfl
theorem beq_ne {i d : Nat} (h : i ≠ d) : Nat.beq i d = false := by
  cases hb : Nat.beq i d with
  | false => rfl
  | true => exact absurd (Nat.eq_of_beq_eq_true hb) h
theorem ne_of_beq {i d : Nat} (h : Nat.beq i d = false) : i ≠ d := Nat.ne_of_beq_eq_false h
theorem beq_self (i : Nat) : Nat.beq i i = true := by
  cases hb : Nat.beq i i with
  | true => rfl
  | false => exact absurd rfl (Nat.ne_of_beq_eq_false hb)
theorem upd_eq (n r d v i) : upd n r d v i = if i = d ∧ i < n then v else r i := by
  unfold upd
  by_cases h : i = d
  · subst h
    rw [beq_self, cond_true]
    by_cases h2 : i < n
    · rw [show Nat.blt i n = true from Nat.ble_eq_true_of_le h2, cond_true, if_pos ⟨rfl, h2⟩]
    · rw [show Nat.blt i n = false from by cases hb : Nat.blt i n with | false => rfl | true => exact absurd (Nat.le_of_ble_eq_true hb) h2, cond_false, if_neg (by omega)]
  · rw [beq_ne h, cond_false, if_neg (by omega)]
theorem Fits.put {n ds r a} (h : Fits n ds r a) (d : Nat) (v : Value) : Fits n ds (upd n r d v) (a.put (some d) v) := by
  refine ⟨by simp [Act.put, h.size], fun i => ?_, h.defers⟩
  have hg := h.get i
  rw [upd_eq]
  simp only [Act.put, Array.getD_eq_getD_getElem?] at hg ⊢
  rw [Array.getElem?_setIfInBounds]
  by_cases hi : d = i
  · subst hi
    by_cases hd : d < n
    · simp [h.size, hd]
    · rw [if_pos rfl, if_neg (by rw [h.size]; exact hd), if_neg (by omega)]
      rw [← hg, Array.getElem?_eq_none (by rw [h.size]; omega)]
  · rw [if_neg hi, if_neg (by omega)]
    exact hg
theorem Fits.put_none {n ds r a} (h : Fits n ds r a) (v : Value) : Fits n ds r (a.put none v) := h
/-- what happens to the frame when an operation's value is put -/
def putd (n : Nat) (r : Nat → Value) : Option Nat → Value → Nat → Value
  | some d, v => upd n r d v
  | none, _ => r
theorem Fits.putd {n ds r a} (h : Fits n ds r a) (d : Option Nat) (v : Value) : Fits n ds (putd n r d v) (a.put d v) := by
  cases d with
  | none => exact h
  | some d => exact h.put d v
/-- what a guard sees -/
def yl (all : List Oper) (r : Nat → Value) (j : Nat) : Option Bool :=
  match (all[j]?).bind (·.dst) with
  | some d => match r d with | .bool b => some b | _ => none
  | none => none
theorem Fits.yielded {n ds r a} (h : Fits n ds r a) (all : List Oper) (j : Nat) : yielded all.toArray a.tmps j = yl all r j := by
  unfold Go.yielded yl
  simp only [List.getElem?_toArray]
  cases hd : (all[j]?).bind (·.dst) with
  | none => rfl
  | some d =>
    have hg := h.get d
    simp only [Option.bind_some]
    rw [← hg, Array.getD_eq_getD_getElem?]
    cases ht : a.tmps[d]? with
    | none => simp [undef]
    | some v => cases v <;> rfl
abbrev Qr := Exit → (Nat → Value) → World → Prop
def lift (n : Nat) (ds : List Deferred) (Q : Qr) : Exit → Act → World → Prop := fun e a w => ∃ r, Fits n ds r a ∧ Q e r w
def WL (P : Program) (n : Nat) (ds : List Deferred) (all ops : List Oper) (Q : Qr) (r : Nat → Value) (w : World) : Prop :=
  ∀ a, Fits n ds r a → wpList P all.toArray (lift n ds Q) ops a w
def WC (P : Program) (n : Nat) (ds : List Deferred) (c : Code) (Q : Qr) (r : Nat → Value) (w : World) : Prop :=
  ∀ a, Fits n ds r a → c.wp P (lift n ds Q) a w
section
variable {P : Program} {n : Nat} {ds : List Deferred} {all rest : List Oper} {Q : Qr} {r : Nat → Value} {w w' : World} {o : Oper}
theorem WL.nil (h : Q .normal r w) : WL P n ds all [] Q r w := fun _ ha => wpList_nil ⟨r, ha, h⟩
/-- the region's operations may be shown as a list of their own -/
theorem WL.wanted {j : Nat} {b : Bool} {d : Option Nat} {op ty pos af}
    (hr : ∀ K : Act → World → Prop, ∀ a : Act, Fits n ds r a → (∀ a w, wpList P all.toArray (lift n ds Q) rest a w → K a w) → (Oper.mk d op ty pos af (some (j, b))).wp P a w K (lift n ds Q))
    (hy : yl all r j = some b) : WL P n ds all (⟨d, op, ty, pos, af, some (j, b)⟩ :: rest) Q r w := by
  intro a ha
  refine wpList_step fun K hK => ?_
  have : Region.wanted ⟨d, op, ty, pos, af, some (j, b)⟩ (Go.yielded all.toArray a.tmps) = true := by
    simp only [Region.wanted, ha.yielded, hy, beq_self_eq_true]
  rw [if_pos this]
  exact hr K a ha hK
/-- an operation that gives a value -/
theorem WL.val {d op ty pos af v} (hr : (execOp (ev r) ⟨d, op, ty, pos, af, none⟩).run P w = .ok (.value v) w')
    (h : WL P n ds all rest Q (putd n r d v) w') : WL P n ds all (⟨d, op, ty, pos, af, none⟩ :: rest) Q r w := by
  intro a ha
  refine wpList_plain rfl fun K hK => ?_
  unfold Oper.wp
  rw [ha.eval, hr]
  exact hK _ _ (h _ (ha.putd d v))
theorem WL.val1 {d op ty pos af v} (hr : (execOp (ev r) ⟨some d, op, ty, pos, af, none⟩).run P w = .ok (.value v) w')
    (h : WL P n ds all rest Q (upd n r d v) w') : WL P n ds all (⟨some d, op, ty, pos, af, none⟩ :: rest) Q r w := WL.val hr h
/-- an operation that gives none -/
theorem WL.none {d op ty pos af} (hr : (execOp (ev r) ⟨d, op, ty, pos, af, none⟩).run P w = .ok .skip w')
    (h : WL P n ds all rest Q (putd n r d undef) w') : WL P n ds all (⟨d, op, ty, pos, af, none⟩ :: rest) Q r w := by
  intro a ha
  refine wpList_plain rfl fun K hK => ?_
  unfold Oper.wp
  rw [ha.eval, hr]
  exact hK _ _ (h _ (ha.putd d undef))
/-- a guarded operation that is passed over -/
theorem WL.skip {d op ty pos af j b} (hy : yl all r j = some (!b) ∨ yl all r j = Option.none) (h : WL P n ds all rest Q (putd n r d undef) w) :
    WL P n ds all (⟨d, op, ty, pos, af, some (j, b)⟩ :: rest) Q r w := by
  intro a ha
  refine wpList_step fun K hK => ?_
  have : Region.wanted ⟨d, op, ty, pos, af, some (j, b)⟩ (Go.yielded all.toArray a.tmps) = false := by
    rcases hy with hy | hy <;> simp [Region.wanted, ha.yielded, hy]
  rw [if_neg (by simp [this])]
  exact hK _ _ (h _ (ha.putd d undef))
/-- a guarded operation that is done -/
theorem WL.gval {d op ty pos af j b v} (hy : yl all r j = some b) (hr : (execOp (ev r) ⟨d, op, ty, pos, af, some (j, b)⟩).run P w = .ok (.value v) w')
    (h : WL P n ds all rest Q (putd n r d v) w') : WL P n ds all (⟨d, op, ty, pos, af, some (j, b)⟩ :: rest) Q r w := by
  refine WL.wanted (fun K a ha hK => ?_) hy
  unfold Oper.wp
  rw [ha.eval, hr]
  exact hK _ _ (h _ (ha.putd d v))
/-- a call of a Go function: what it must do -/
def Ret (P : Program) (f : FuncId) (args : Array Value) (w : World) (post : Value → World → Prop) : Prop :=
  Calls P f args w fun e w' => ∃ v, e = .returned v ∧ post v w'
theorem Ret.mono {f args post post'} (h : Ret P f args w post) (hp : ∀ v w', post v w' → post' v w') : Ret P f args w post' :=
  Calls.mono h fun _ _ ⟨v, he, hv⟩ => ⟨v, he, hp _ _ hv⟩
theorem Ret.of {f args R post} (h : Calls P f args w R) (hp : ∀ e w', R e w' → ∃ v, e = .returned v ∧ post v w') : Ret P f args w post := Calls.mono h hp
theorem WL.enter {d op ty pos af f args} (hr : (execOp (ev r) ⟨d, op, ty, pos, af, Option.none⟩).run P w = .ok (.enter f args) w')
    (h : Ret P f args w' fun v w'' => WL P n ds all rest Q (putd n r d v) w'') : WL P n ds all (⟨d, op, ty, pos, af, Option.none⟩ :: rest) Q r w := by
  intro a ha
  refine wpList_plain rfl fun K hK => ?_
  unfold Oper.wp
  rw [ha.eval, hr, Oper.upon_enter]
  refine Calls.mono h fun e w'' ⟨v, he, hv⟩ => ?_
  subst he
  exact hK _ _ (hv _ (ha.putd d v))
theorem WL.genter {d op ty pos af f args j b} (hy : yl all r j = some b) (hr : (execOp (ev r) ⟨d, op, ty, pos, af, some (j, b)⟩).run P w = .ok (.enter f args) w')
    (h : Ret P f args w' fun v w'' => WL P n ds all rest Q (putd n r d v) w'') : WL P n ds all (⟨d, op, ty, pos, af, some (j, b)⟩ :: rest) Q r w := by
  refine WL.wanted (fun K a ha hK => ?_) hy
  unfold Oper.wp
  rw [ha.eval, hr, Oper.upon_enter]
  refine Calls.mono h fun e w'' ⟨v, he, hv⟩ => ?_
  subst he
  exact hK _ _ (hv _ (ha.putd d v))
theorem WL.mono {Q' : Qr} (h : WL P n ds all rest Q r w) (hq : ∀ e r w, Q e r w → Q' e r w) : WL P n ds all rest Q' r w := by
  intro a ha
  have key : ∀ (l : List Oper) (a : Act) (w : World), wpList P all.toArray (lift n ds Q) l a w → wpList P all.toArray (lift n ds Q') l a w := by
    intro l
    induction l with
    | nil => exact fun a w ⟨r, h1, h2⟩ => ⟨r, h1, hq _ _ _ h2⟩
    | cons o l ih =>
      intro a w h
      have hlo : LetsOut (lift n ds Q) → LetsOut (lift n ds Q') := fun ⟨a, w, r, h1, h2⟩ => ⟨a, w, r, h1, hq _ _ _ h2⟩
      unfold wpList at h ⊢
      split
      · rename_i hw
        rw [if_pos hw] at h
        rcases h with h | ⟨h1, h2⟩
        · left
          unfold Oper.wp at h ⊢
          generalize (execOp a.eval o).run P w = res at h ⊢
          cases res with
          | halt hh w' => cases hh <;> first | exact h.elim | exact (let ⟨r, h1, h2⟩ := h; ⟨r, h1, hq _ _ _ h2⟩)
          | ok x w' =>
            cases x with
            | value v => exact ih _ _ h
            | skip => exact ih _ _ h
            | defer d => exact ih _ _ h
            | enter f args =>
              refine Calls.mono h fun e w'' he => ?_
              cases e with
              | returned v => exact ih _ _ he
              | panicked c => exact let ⟨r, h1, h2⟩ := he; ⟨r, h1, hq _ _ _ h2⟩
              | outgrown => exact hlo he
            | row row args => exact Rows.mono h fun v w'' hv => ih _ _ hv
            | _ => exact h.elim
        · exact .inr ⟨h1, hlo h2⟩
      · rename_i hw
        rw [if_neg hw] at h
        exact ih _ _ h
  exact key _ _ _ (h a ha)
end
section
variable {P : Program} {n : Nat} {ds : List Deferred} {Q : Qr} {r : Nat → Value} {w : World}
def qthen (K : (Nat → Value) → World → Prop) (Q : Qr) : Qr
  | .normal, r, w => K r w
  | e, r, w => Q e r w
def qblock (id : Nat) (Q : Qr) : Qr
  | .exit id', r, w => if id' = id then Q .normal r w else Q (.exit id') r w
  | e, r, w => Q e r w
theorem then_normal {K} (h : K r w) : qthen K Q .normal r w := h
theorem then_exit {K id} (h : Q (.exit id) r w) : qthen K Q (.exit id) r w := h
theorem then_ret {K} (h : Q .ret r w) : qthen K Q .ret r w := h
theorem then_panic {K c} (h : Q (.panic c) r w) : qthen K Q (.panic c) r w := h
theorem block_normal {id} (h : Q .normal r w) : qblock id Q .normal r w := h
theorem block_ret {id} (h : Q .ret r w) : qblock id Q .ret r w := h
theorem block_panic {id c} (h : Q (.panic c) r w) : qblock id Q (.panic c) r w := h
theorem block_exit {id} (h : Q .normal r w) : qblock id Q (.exit id) r w := by simpa [qblock] using h
theorem block_exit_ne {id id'} (hne : Nat.beq id' id = false) (h : Q (.exit id') r w) : qblock id Q (.exit id') r w := by
  have : id' ≠ id := ne_of_beq hne
  simpa [qblock, this] using h
theorem WC.mono {c} {Q' : Qr} (h : WC P n ds c Q r w) (hq : ∀ e r w, Q e r w → Q' e r w) : WC P n ds c Q' r w :=
  fun a ha => Code.wp_mono (fun _ _ _ ⟨r, h1, h2⟩ => ⟨r, h1, hq _ _ _ h2⟩) (h a ha)
theorem WC.seq {x y} (h : WC P n ds x (qthen (fun r w => WC P n ds y Q r w) Q) r w) : WC P n ds (.seq x y) Q r w := by
  intro a ha
  refine wp_seq (Code.wp_mono (fun e a w he => ?_) (h a ha))
  obtain ⟨r', h1, h2⟩ := he
  cases e with
  | normal => exact h2 a h1
  | _ => exact ⟨r', h1, h2⟩
theorem WC.block {id c} (h : WC P n ds c (qblock id Q) r w) : WC P n ds (.block id c) Q r w := by
  intro a ha
  refine wp_block (Code.wp_mono (fun e a w he => ?_) (h a ha))
  obtain ⟨r', h1, h2⟩ := he
  cases e with
  | exit id' =>
    simp only [qblock, Exit.inBlock] at h2 ⊢
    split
    · rename_i hh; rw [if_pos hh] at h2; exact ⟨r', h1, h2⟩
    · rename_i hh; rw [if_neg hh] at h2; exact ⟨r', h1, h2⟩
  | _ => exact ⟨r', h1, h2⟩
theorem WC.skip (h : Q .normal r w) : WC P n ds .skip Q r w := fun _ ha => wp_skip ⟨r, ha, h⟩
theorem WC.ret (h : Q .ret r w) : WC P n ds .ret Q r w := fun _ ha => wp_ret ⟨r, ha, h⟩
theorem WC.exit {id} (h : Q (.exit id) r w) : WC P n ds (.exit id) Q r w := fun _ ha => wp_exit ⟨r, ha, h⟩
theorem WC.label {l} (h : Q .normal r w) : WC P n ds (.label l) Q r w := fun _ ha => wp_label ⟨r, ha, h⟩
theorem WC.region {id} {l : List Oper} (h : WL P n ds l l Q r w) : WC P n ds (.region id l.toArray false) Q r w := fun a ha => wp_region_lit (h a ha)
theorem WC.cond {c x y} (b : Bool) (hc : ev r c = .bool b) (ht : b = true → WC P n ds x Q r w) (hf : b = false → WC P n ds y Q r w) : WC P n ds (.cond c x y) Q r w := by
  intro a ha
  refine wp_cond_split (t := b) (by rw [ha.eval]; exact hc) (fun h => ht h a ha) (fun h => hf h a ha)
theorem WC.condP {c x y} (p : Prop) [Decidable p] (hc : ev r c = .bool (decide p)) (ht : p → WC P n ds x Q r w) (hf : ¬ p → WC P n ds y Q r w) : WC P n ds (.cond c x y) Q r w :=
  WC.cond _ hc (fun h => ht (of_decide_eq_true h)) (fun h => hf (of_decide_eq_false h))
theorem WC.condT {c x y} (hc : ev r c = .bool true) (ht : WC P n ds x Q r w) : WC P n ds (.cond c x y) Q r w :=
  WC.cond _ hc (fun _ => ht) (fun h => by cases h)
theorem WC.condF {c x y} (hc : ev r c = .bool false) (hf : WC P n ds y Q r w) : WC P n ds (.cond c x y) Q r w :=
  WC.cond _ hc (fun h => by cases h) (fun _ => hf)
/-- a loop: Inv over a state of one's own, a measure that falls -/
theorem WC.loop {c} {σ : Type} (Inv : σ → (Nat → Value) → World → Prop) (μ : σ → Nat) (s0 : σ) (h0 : Inv s0 r w)
    (round : ∀ s r w, Inv s r w → WC P n ds c (qthen (fun r' w' => ∃ s', Inv s' r' w' ∧ μ s' < μ s) Q) r w) : WC P n ds (.loop c) Q r w := by
  intro a ha
  -- the measure is carried as a number beside the state
  have key : ∀ (m : Nat) (s : σ) (r : Nat → Value) (w : World) (a : Act), μ s = m → Inv s r w → Fits n ds r a →
      ∀ b k cs, ∃ e a' w', lift n ds Q e a' w' ∧ Arrives P (lone (b.at a (.code c :: .inLoop c :: k)) cs w) b k cs e a' w' := by
    intro m
    induction m using Nat.strongRecOn with
    | _ m ih =>
      intro s r w a hm hI ha b k cs
      obtain ⟨e, a₁, w₁, hq, harr⟩ := round s r w hI a ha b (.inLoop c :: k) cs
      obtain ⟨r₁, hf₁, hq⟩ := hq
      cases e with
      | normal =>
        obtain ⟨s', hI₁, hlt⟩ := hq
        obtain ⟨e₂, a₂, w₂, hq₂, harr₂⟩ := ih (μ s') (hm ▸ hlt) s' r₁ w₁ a₁ rfl hI₁ hf₁ b k cs
        exact ⟨e₂, a₂, w₂, hq₂, .of_steps (Steps.trans harr (.one step_inLoop)) harr₂⟩
      | exit id => exact ⟨_, a₁, w₁, ⟨r₁, hf₁, hq⟩, .pass (x := .inLoop c) rfl (fun _ _ => .inl (by simp)) harr⟩
      | goto l => exact ⟨_, a₁, w₁, ⟨r₁, hf₁, hq⟩, .pass (x := .inLoop c) rfl (fun _ _ => .inl (by simp)) harr⟩
      | ret => exact ⟨_, a₁, w₁, ⟨r₁, hf₁, hq⟩, .pass (x := .inLoop c) rfl (fun _ _ => .inl (by simp)) harr⟩
      | panic ch => exact ⟨_, a₁, w₁, ⟨r₁, hf₁, hq⟩, .pass (x := .inLoop c) rfl (fun _ _ => .inl (by simp)) harr⟩
      | outgrown => exact ⟨_, a₁, w₁, ⟨r₁, hf₁, hq⟩, .pass (x := .inLoop c) rfl (fun _ _ => .inl (by simp)) harr⟩
  intro b k cs
  obtain ⟨e, a', w', hq, harr⟩ := key _ s0 r w a rfl h0 ha b k cs
  exact ⟨e, a', w', hq, .of_steps (.one step_loop) harr⟩
/-- the continuation may be cut: what holds at the meeting point is all that is known behind it -/
theorem WC.cut {x y} (J : (Nat → Value) → World → Prop) (h : WC P n ds x (qthen J Q) r w) (hy : ∀ r w, J r w → WC P n ds y Q r w) : WC P n ds (.seq x y) Q r w :=
  WC.seq (h.mono fun e r w he => by cases e <;> first | exact hy _ _ he | exact he)
end
/-! frames told slot by slot -/
def over : List (Nat × Value) → (Nat → Value) → Nat → Value
  | [], r => r
  | (d, v) :: l, r => fun i => bif Nat.beq i d then v else over l r i
def Sat (r : Nat → Value) : List (Nat × Value) → Prop
  | [] => True
  | (d, v) :: l => r d = v ∧ Sat r l
theorem over_of_sat {r : Nat → Value} {l : List (Nat × Value)} (h : Sat r l) : over l r = r := by
  induction l with
  | nil => rfl
  | cons p l ih =>
    obtain ⟨d, v⟩ := p
    obtain ⟨h1, h2⟩ := h
    funext i
    simp only [over]
    cases hb : Nat.beq i d with
    | true =>
      have : i = d := Nat.eq_of_beq_eq_true hb
      subst this
      exact h1.symm
    | false => simp [ih h2]
/-- the frame may be forgotten but for the slots named -/
theorem WC.frame {P n ds c Q r w} (l : List (Nat × Value)) (h : Sat r l) (k : ∀ r', WC P n ds c Q (over l r') w) : WC P n ds c Q r w := by
  have := k r
  rwa [over_of_sat h] at this
theorem WL.frame {P n ds all ops Q r w} (l : List (Nat × Value)) (h : Sat r l) (k : ∀ r', WL P n ds all ops Q (over l r') w) : WL P n ds all ops Q r w := by
  have := k r
  rwa [over_of_sat h] at this
/-- a loop whose slots are told by a list -/
theorem WC.loopL {P n ds c Q r w} {σ : Type} (L : σ → List (Nat × Value)) (I : σ → World → Prop) (μ : σ → Nat) (s0 : σ) (hL : Sat r (L s0)) (h0 : I s0 w)
    (round : ∀ s r w, I s w → WC P n ds c (qthen (fun r' w' => ∃ s', Sat r' (L s') ∧ I s' w' ∧ μ s' < μ s) Q) (over (L s) r) w) : WC P n ds (.loop c) Q r w := by
  refine WC.loop (fun s r w => Sat r (L s) ∧ I s w) μ s0 ⟨hL, h0⟩ fun s r w ⟨h1, h2⟩ => ?_
  have := round s r w h2
  rw [over_of_sat h1] at this
  refine this.mono fun e r w he => ?_
  cases e with
  | normal => exact let ⟨s', a, b, c⟩ := he; ⟨s', ⟨a, b⟩, c⟩
  | _ => exact he
/-- a meeting point told by a list -/
theorem WC.cutL {P n ds x y Q r w} {σ : Type} (L : σ → List (Nat × Value)) (I : σ → World → Prop)
    (h : WC P n ds x (qthen (fun r w => ∃ s, Sat r (L s) ∧ I s w) Q) r w) (hy : ∀ s r w, I s w → WC P n ds y Q (over (L s) r) w) : WC P n ds (.seq x y) Q r w := by
  refine WC.cut _ h fun r w ⟨s, h1, h2⟩ => ?_
  have := hy s r w h2
  rwa [over_of_sat h1] at this
/-! a function's body -/
def nth : List Value → Nat → Value
  | [], _ => undef
  | v :: _, 0 => v
  | _ :: l, i + 1 => nth l i
theorem nth_eq (l : List Value) (i : Nat) : nth l i = l.getD i undef := by
  induction l generalizing i with
  | nil => rfl
  | cons v l ih => cases i with
    | zero => rfl
    | succ i => simpa [nth] using ih i
/-- the results of a frame -/
def Gives (P : Program) (fn : Func) (n : Nat) (ds : List Deferred) (r : Nat → Value) (w : World) (v : Value) : Prop :=
  ∀ a, Fits n ds r a → (results fn a.tmps).run P w = .ok v w
def qtop (P : Program) (fn : Func) (n : Nat) (post : Value → World → Prop) : Qr
  | .normal, r, w => ∃ v, Gives P fn n [] r w v ∧ post v w
  | .ret, r, w => ∃ v, Gives P fn n [] r w v ∧ post v w
  | _, _, _ => False
theorem Ret.body {P f fn c args w post n} (hf : P.funcs[f]? = some fn) (hb : fn.body = some c) (hm : fn.ntmps = n) (hn : args.length ≤ n)
    (h : WC P n [] c (qtop P fn n post) (nth args) w) : Ret P f args.toArray w post := by
  subst hm
  refine calls_of_wp hf hb ?_
  have hfit : Fits fn.ntmps [] (nth args) { tmps := args.toArray ++ Array.replicate (fn.ntmps - args.toArray.size) undef, defers := [] } := by
    refine ⟨by simp; omega, fun i => ?_, rfl⟩
    rw [nth_eq]
    simp only [Array.getD_eq_getD_getElem?, List.getD_eq_getElem?_getD, Array.getElem?_append]
    split
    · simp
    · rename_i hi
      rw [List.getElem?_eq_none (by simpa using hi), Array.getElem?_replicate]
      split <;> rfl
  refine Code.wp_mono (fun e a w he => ?_) (h _ hfit)
  obtain ⟨r, h1, h2⟩ := he
  cases e with
  | normal => obtain ⟨v, hg, hv⟩ := h2; exact ⟨h1.defers, v, hg a h1, v, rfl, hv⟩
  | ret => obtain ⟨v, hg, hv⟩ := h2; exact ⟨h1.defers, v, hg a h1, v, rfl, hv⟩
  | exit _ => exact h2.elim
  | goto _ => exact h2.elim
  | panic _ => exact h2.elim
  | outgrown => exact h2.elim
theorem top_ret {P fn n post r w} (v : Value) (hg : Gives P fn n [] r w v) (h : post v w) : qtop P fn n post .ret r w := ⟨v, hg, h⟩
theorem top_normal {P fn n post r w} (v : Value) (hg : Gives P fn n [] r w v) (h : post v w) : qtop P fn n post .normal r w := ⟨v, hg, h⟩
theorem gives0 {P fn n ds r w} (h : fn.results = #[]) : Gives P fn n ds r w (.tuple #[]) := fun _ _ => results_none h _ _ _
theorem gives1 {P fn n ds r w} {t : Nat} {v} (h : fn.results = #[.tmp t]) (hv : r t = v) : Gives P fn n ds r w v := fun a ha => by
  rw [results_tmp h, ha.get, hv]
theorem gives2 {P fn n ds r w} {t u : Nat} {v x} (h : fn.results = #[.tmp t, .tmp u]) (hv : r t = v) (hx : r u = x) : Gives P fn n ds r w (.tuple #[v, x]) := fun a ha => by
  rw [results_tmp2 h, ha.get, ha.get, hv, hx]
theorem gives3 {P fn n ds r w} {t u s : Nat} {v x y} (h : fn.results = #[.tmp t, .tmp u, .tmp s]) (hv : r t = v) (hx : r u = x) (hy : r s = y) : Gives P fn n ds r w (.tuple #[v, x, y]) := fun a ha => by
  have h1 := ha.get t
  have h2 := ha.get u
  have h3 := ha.get s
  rw [hv] at h1
  rw [hx] at h2
  rw [hy] at h3
  have e : (results fn a.tmps).run P w = .ok (.tuple #[a.tmps.getD t undef, a.tmps.getD u undef, a.tmps.getD s undef]) w := by simp [results, h]
  rw [e, h1, h2, h3]
end Go.Eng
