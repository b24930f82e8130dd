/- A part of the proof engine: rules for steps of the machine over frames and memory. Each under the conditions that its own statement names. -/
import Derived.Test.YtcnhcckbdmjdiaaGreatDoorEng3
import Derived.Laws.Rows
import Derived.Laws.NewFold
import Derived.Laws.Append
set_option linter.all false
set_option linter.unusedSimpArgs false
set_option linter.unusedVariables false
namespace Go.Eng
open Go
/-- a row of cells of one's own -/
abbrev row (b : Nat) (l : List Value) (e : TypeId) : HProp := blk b (.cells l.toArray e (0, 0))
/-- cells written from a place on -/
def putl (l : List Value) (off : Nat) (vs : List Value) : List Value := l.take off ++ vs ++ l.drop (off + vs.length)
section
variable {P : Program} {ρ : Operand → Value} {w : World} {d : Option Nat} {ty : TypeId} {pos : String} {af : Array Edge} {g : Option (Nat × Bool)} {x y c : Operand} {t e : TypeId}
theorem R_alloc {z} (hz : (zeroValue e).run P w = .ok z w) : (execOp ρ ⟨d, .alloc e, ty, pos, af, g⟩).run P w = .ok (.value (.pointer (some ⟨w.heap.size, 0, none⟩))) (w.alloc (.cells z.cells e (0, 0))) := by
  simp [execOp, Instr.alloc, hz, newVar, newRow]
theorem R_box {v} (hx : ρ x = v) : (execOp ρ ⟨d, .box e x, ty, pos, af, g⟩).run P w = .ok (.value (.pointer (some ⟨w.heap.size, 0, none⟩))) (w.alloc (.cells v.cells e (0, 0))) := by
  simp [execOp, Instr.box, hx, newVar, newRow]
theorem cell_row {b off : Nat} {arr : Array Value} {fz} (hb : w.heap[b]? = some (.cells arr e fz)) : w.cell? ⟨b, off, none⟩ = arr[off]? := by
  simp [World.cell?, hb]
theorem add_lit (b off k : Nat) : (⟨b, off, none⟩ : Addr).add k = ⟨b, off + k, none⟩ := by
  unfold Addr.add; split <;> simp_all
theorem R_load {b off : Nat} {arr : Array Value} {fz v} (hx : ρ x = .pointer (some ⟨b, off, none⟩)) (hb : w.heap[b]? = some (.cells arr e fz)) (ha : (isAgg t).run P w = .ok false w) (hv : arr[off]? = some v) :
    (execOp ρ ⟨d, .load t x, ty, pos, af, g⟩).run P w = .ok (.value v) w := by
  have h1 : w.cell? ⟨b, off, none⟩ = some v := by rw [cell_row hb, hv]
  simp [execOp, Instr.loadAt, Instr.sureAddr, hx, loadVar, ha, h1]
theorem R_loadA {b off k : Nat} {arr : Array Value} {fz} {cs : List Value} (hx : ρ x = .pointer (some ⟨b, off, none⟩)) (hb : w.heap[b]? = some (.cells arr e fz)) (ha : (isAgg t).run P w = .ok true w) (hs : (sizeOf t).run P w = .ok k w)
    (hk : cs.length = k) (hv : ∀ j v, cs[j]? = some v → arr[off + j]? = some v) :
    (execOp ρ ⟨d, .load t x, ty, pos, af, g⟩).run P w = .ok (.value (.agg cs.toArray)) w := by
  subst hk
  have h1 := run_loadCells_list (P := P) w ⟨b, off, none⟩ cs (fun j v hj => by rw [add_lit, cell_row hb]; exact hv j v hj)
  simp [execOp, Instr.loadAt, Instr.sureAddr, hx, loadVar, ha, hs, h1]
theorem R_store {b off k : Nat} {l vs : List Value} {v} (hx : ρ x = .pointer (some ⟨b, off, none⟩)) (hy : ρ y = v) (hb : w.heap[b]? = some (.cells l.toArray e (0, 0))) (hs : (sizeOf t).run P w = .ok k w)
    (hv : v.cells.toList = vs) (hk : vs.length = k) (h1 : ∀ u ∈ vs, u.oneCell' = true) (hfit : off + vs.length ≤ l.length) :
    (execOp ρ ⟨d, .store t x y, ty, pos, af, g⟩).run P w = .ok .skip (w.setRow b (putl l off vs).toArray) := by
  subst hk
  have hst := run_storeCells_at P b off e vs 0 l.toArray w hb (by simpa using hfit) h1
  have hcs : v.cells.size = vs.length := by rw [← hv]; simp
  simp only [Nat.add_zero] at hst
  simp [execOp, Instr.storeAt, Instr.sureAddr, hx, hy, storeVar, hs, hcs, hv, hst, putl]
theorem R_buildSlice {n size : Nat} {parts : List (Nat × Operand)} {vs : List (Nat × Value)} {z : Value} {cells : List Value} (hu : P.underlying t = some (.slice e)) (hs : (sizeOf e).run P w = .ok size w) (hz : (zeroValue e).run P w = .ok z w)
    (hbig : n * size ≤ 2 ^ 24) (hpos : n * size ≠ 0) (hps : parts.map (fun p => (p.1, ρ p.2)) = vs)
    (hf : Instr.fill (fun i => some (i * size, size)) ((Array.range (n * size)).map (z.cells[· % z.cells.size]!)) vs = some cells.toArray) :
    (execOp ρ ⟨d, .buildSlice t n parts.toArray, ty, pos, af, g⟩).run P w = .ok (.value (.slice (some ⟨w.heap.size, 0, none⟩) n n)) (w.alloc (.cells cells.toArray e (0, 0))) := by
  have hb : ¬ (2 ^ 24 < n * size) := by omega
  subst hps
  simp only [execOp, Instr.buildSlice, Sem.run_bind, run_underlying hu, Result.andThen_ok, hs, if_neg hpos, hz, if_neg hb]
  simp [hf, newRow]
end
section
variable {G : World → Prop} {Γ : Ctx G} {h : Hp} {L : List HProp} {w w' : World}
theorem ext_alloc (w : World) (o : Obj) : Ext w (w.alloc o) := ⟨rfl, rfl, rfl, by simp, fun b hb _ => heap_alloc_old w o b hb⟩
theorem In_single_alloc (w : World) (o : Obj) : In (single w.heap.size o) (w.alloc o) := fun b o' hb => by
  unfold single at hb
  split at hb
  · rename_i e; subst e; rw [heap_alloc_new]; exact hb
  · cases hb
theorem St.alloc (hS : St Γ h L w) (o : Obj) : St Γ h (blk w.heap.size o :: L) (w.alloc o) :=
  hS.push ⟨single w.heap.size o, fun _ => rfl, In_single_alloc w o, fun b o' hb => by unfold single at hb; split at hb; omega; cases hb⟩ (ext_alloc w o)
/-- a new block, committed at once -/
theorem St.allocC (hS : St Γ h L w) (o : Obj) : ∃ h', h.le h' ∧ h' w.heap.size = some o ∧ St Γ h' L (w.alloc o) := by
  obtain ⟨g1, h', k1, k2, k3, k4⟩ := (hS.alloc o).commit (i := 0) rfl
  refine ⟨h', k2, k3 _ _ ?_, ?_⟩
  · rw [k1]; simp
  · exact k4.pop
theorem setRow_stp (w : World) (b : Nat) (cs : Array Value) : Stp (fun c => c = b) w (w.setRow b cs) :=
  ⟨rfl, rfl, rfl, by simp [World.setRow], fun c _ hc => setRow_other w b c cs hc⟩
theorem St.setRow {i b : Nat} {l l' : List Value} {e : TypeId} (hS : St Γ h L w) (hi : L[i]? = some (row b l e)) : St Γ h (L.set i (row b l' e)) (w.setRow b l'.toArray) := by
  have hb := hS.has hi
  refine hS.act hi fun g1 h1 h2 h3 => ⟨single b (.cells l'.toArray e (0, 0)), fun _ => rfl, fun c o hc => ?_, fun c o hc => ?_, ?_⟩
  · unfold single at hc
    split at hc
    · rename_i e1; subst e1; rw [setRow_heap w c _ _ _ _ hb]; exact hc
    · cases hc
  · unfold single at hc
    split at hc
    · rename_i e1; subst e1; left; exact ⟨_, by rw [h1 c, if_pos rfl]⟩
    · cases hc
  · have := setRow_stp w b l'.toArray
    refine ⟨this.os, this.tape, this.output, this.size, fun c hc hn => this.old c hc fun e1 => hn ?_⟩
    subst e1
    exact ⟨_, by rw [h1 c, if_pos rfl]⟩
end
/-! contracts -/
/-- it gives this value, and leaves all as it was -/
def PureC (G : World → Prop) (P : Program) (f : FuncId) (pre : Hp → Prop) (args : List Value) (v : Value) : Prop :=
  ∀ (Γ : Ctx G) h L w, pre h → St Γ h L w → Ret P f args.toArray w fun v' w' => v' = v ∧ St Γ h L w'
/-- it gives what lies in new memory, and leaves all as it was -/
def FnC (G : World → Prop) (P : Program) (f : FuncId) (pre : Hp → Prop) (args : List Value) (post : Hp → Value → Prop) : Prop :=
  ∀ (Γ : Ctx G) h L w, pre h → St Γ h L w → Ret P f args.toArray w fun v w' => ∃ h', h.le h' ∧ post h' v ∧ St Γ h' L w'
/-- it turns a chunk of the caller's, that stands first -/
def MutC (G : World → Prop) (P : Program) (f : FuncId) (pre : Hp → HProp → Prop) (args : List Value) (post : Hp → HProp → Value → Prop) : Prop :=
  ∀ (Γ : Ctx G) h L w A, pre h A → St Γ h (A :: L) w → Ret P f args.toArray w fun v w' => ∃ h' A', h.le h' ∧ post h' A' v ∧ St Γ h' (A' :: L) w'
/-- chunks put together -/
def star (A C : HProp) : HProp := fun g => ∃ g1 g2, A g1 ∧ C g2 ∧ Disj g1 g2 ∧ ∀ b, g b = (g1 b).or (g2 b)
theorem Sats.cons_emp {L : List HProp} {g : Hp} (h : Sats L g) : Sats (emp :: L) g := ⟨fun _ => none, g, fun _ => rfl, h, fun _ => .inl rfl, fun _ => rfl⟩
theorem or_of_disj {a b c : Option Obj} (h1 : a = none ∨ b = none) (h2 : a = none ∨ c = none) : a.or (b.or c) = b.or (a.or c) := by
  cases a <;> cases b <;> simp_all
section
variable {G : World → Prop} {Γ : Ctx G} {h : Hp} {L : List HProp} {w : World}
theorem St.sats (hS : St Γ h L w) {L' : List HProp} (f : ∀ g, Sats L g → Sats L' g) : St Γ h L' w := by
  obtain ⟨g, h1, h2⟩ := hS.ex
  exact ⟨hS.keep, hS.hin, g, f g h1, h2⟩
theorem Sats.front {L : List HProp} {i : Nat} {A : HProp} {g : Hp} (hi : L[i]? = some A) (hs : Sats L g) : Sats (A :: L.set i emp) g := by
  obtain ⟨g1, g2, k1, k2, k3, k4⟩ := Sats.split hi hs
  refine ⟨g1, fun b => ((fun _ => none : Hp) b).or (g2 b), k1, k4 emp (fun _ => none) (fun _ => rfl) (fun _ => .inl rfl), fun b => ?_, fun b => ?_⟩
  · simpa using k2 b
  · simpa using k3 b
theorem Sats.back {L : List HProp} {i : Nat} {A A' : HProp} {g : Hp} (hi : L[i]? = some A) (hs : Sats (A' :: L.set i emp) g) : Sats (L.set i A') g := by
  obtain ⟨g1, g2, k1, k2, k3, k4⟩ := hs
  have hlt : i < L.length := by
    rcases Nat.lt_or_ge i L.length with h | h
    · exact h
    · rw [List.getElem?_eq_none h] at hi; cases hi
  obtain ⟨e1, e2, m1, m2, m3, m4⟩ := Sats.split (i := i) (A := emp) (by rw [List.getElem?_set_self hlt]) k2
  have he : ∀ b, g2 b = e2 b := fun b => by rw [m3 b, m1 b]; rfl
  have := m4 A' g1 k1 (fun b => by rw [← he]; exact k3 b)
  rw [List.set_set] at this
  have e : (fun b => (g1 b).or (e2 b)) = g := by funext b; rw [k4 b, he b]
  rwa [e] at this
theorem St.front {i : Nat} {A : HProp} (hS : St Γ h L w) (hi : L[i]? = some A) : St Γ h (A :: L.set i emp) w := hS.sats fun _ => Sats.front hi
theorem St.back {i : Nat} {A A' : HProp} (hS : St Γ h (A' :: L.set i emp) w) (hi : L[i]? = some A) : St Γ h (L.set i A') w := hS.sats fun _ => Sats.back hi
theorem St.unstar {A C : HProp} (hS : St Γ h (star A C :: L) w) : St Γ h (A :: C :: L) w := hS.sats fun g ⟨ga, g3, ⟨g1, g2, k1, k2, k3, k4⟩, m2, m3, m4⟩ => by
  have d13 : Disj g1 g3 := fun b => by
    rcases m3 b with hh | hh
    · rw [k4 b] at hh; exact .inl (Option.or_eq_none_iff.1 hh).1
    · exact .inr hh
  have d23 : Disj g2 g3 := fun b => by
    rcases m3 b with hh | hh
    · rw [k4 b] at hh; exact .inl (Option.or_eq_none_iff.1 hh).2
    · exact .inr hh
  refine ⟨g1, fun b => (g2 b).or (g3 b), k1, ⟨g2, g3, k2, m2, d23, fun _ => rfl⟩, fun b => ?_, fun b => ?_⟩
  · rcases k3 b with hh | hh
    · exact .inl hh
    · rcases d13 b with h' | h'
      · exact .inl h'
      · right; simp [hh, h']
  · rw [m4 b, k4 b, Option.or_assoc]
theorem St.star {A C : HProp} (hS : St Γ h (A :: C :: L) w) : St Γ h (Eng.star A C :: L) w := hS.sats fun g ⟨g1, gb, k1, ⟨g2, g3, j1, j2, j3, j4⟩, k3, k4⟩ => by
  have d12 : Disj g1 g2 := fun b => by
    rcases k3 b with hh | hh
    · exact .inl hh
    · rw [j4 b] at hh; exact .inr (Option.or_eq_none_iff.1 hh).1
  have d13 : Disj g1 g3 := fun b => by
    rcases k3 b with hh | hh
    · exact .inl hh
    · rw [j4 b] at hh; exact .inr (Option.or_eq_none_iff.1 hh).2
  refine ⟨fun b => (g1 b).or (g2 b), g3, ⟨g1, g2, k1, j1, d12, fun _ => rfl⟩, j2, fun b => ?_, fun b => ?_⟩
  · rcases d13 b with hh | hh
    · rcases j3 b with h' | h'
      · left; simp [hh, h']
      · exact .inr h'
    · exact .inr hh
  · rw [k4 b, j4 b, Option.or_assoc]
/-- the first two chunks change places -/
theorem St.swap {A C : HProp} (hS : St Γ h (A :: C :: L) w) : St Γ h (C :: A :: L) w := by
  have := hS.front (i := 1) rfl
  have h2 : St Γ h (C :: A :: Eng.emp :: L) w := this
  refine h2.sats fun g ⟨g1, gb, k1, ⟨g2, gc, j1, ⟨g3, g4, l1, l2, l3, l4⟩, j3, j4⟩, k3, k4⟩ => ?_
  have e : ∀ b, gc b = g4 b := fun b => by rw [l4 b, l1 b]; rfl
  refine ⟨g1, gb, k1, ⟨g2, g4, j1, l2, fun b => by rw [← e]; exact j3 b, fun b => by rw [j4 b, e]⟩, k3, k4⟩
theorem St.cons_emp (hS : St Γ h L w) : St Γ h (emp :: L) w := hS.sats fun _ => Sats.cons_emp
end
section
variable {G : World → Prop} {Γ : Ctx G} {h : Hp} {L : List HProp} {P : Program} {n : Nat} {ds : List Deferred} {all rest : List Oper} {Q : Qr} {r : Nat → Value} {w : World}
  {d : Nat} {ty : TypeId} {pos : String} {af : Array Edge} {x y : Operand} {t e : TypeId}
theorem S_alloc {z} (hS : St Γ h L w) (hz : ∀ w, (zeroValue e).run P w = .ok z w)
    (k : ∀ w', St Γ h (row w.heap.size z.cells.toList e :: L) w' → WL P n ds all rest Q (upd n r d (.pointer (some ⟨w.heap.size, 0, none⟩))) w') :
    WL P n ds all (⟨some d, .alloc e, ty, pos, af, none⟩ :: rest) Q r w :=
  WL.val1 (R_alloc (hz w)) (k _ (hS.alloc _))
theorem S_box {l} {v} (hS : St Γ h L w) (hx : ev r x = v) (hl : v.cells.toList = l)
    (k : ∀ w', St Γ h (row w.heap.size l e :: L) w' → WL P n ds all rest Q (upd n r d (.pointer (some ⟨w.heap.size, 0, none⟩))) w') :
    WL P n ds all (⟨some d, .box e x, ty, pos, af, none⟩ :: rest) Q r w := by
  refine WL.val1 (R_box hx) (k _ ?_)
  subst hl
  exact hS.alloc _
theorem S_load {b off i : Nat} {l : List Value} {v} (hS : St Γ h L w) (hx : ev r x = .pointer (some ⟨b, off, none⟩)) (hi : L[i]? = some (row b l e)) (ha : ∀ w, (isAgg t).run P w = .ok false w) (hv : l[off]? = some v)
    (k : WL P n ds all rest Q (upd n r d v) w) : WL P n ds all (⟨some d, .load t x, ty, pos, af, none⟩ :: rest) Q r w :=
  WL.val1 (R_load hx (hS.has hi) (ha w) (by simpa using hv)) k
theorem sub_cells {l cs : List Value} {off : Nat} (hc : (l.drop off).take cs.length = cs) : ∀ j v, cs[j]? = some v → l.toArray[off + j]? = some v := by
  intro j v hj
  have hlt : j < cs.length := by
    rcases Nat.lt_or_ge j cs.length with h | h
    · exact h
    · rw [List.getElem?_eq_none h] at hj; cases hj
  rw [← hc, List.getElem?_take, if_pos hlt, List.getElem?_drop] at hj
  simpa using hj
theorem S_loadA {b off i k : Nat} {l cs : List Value} (hS : St Γ h L w) (hx : ev r x = .pointer (some ⟨b, off, none⟩)) (hi : L[i]? = some (row b l e)) (ha : ∀ w, (isAgg t).run P w = .ok true w) (hs : ∀ w, (sizeOf t).run P w = .ok k w)
    (hk : cs.length = k) (hc : (l.drop off).take cs.length = cs)
    (kk : WL P n ds all rest Q (upd n r d (.agg cs.toArray)) w) : WL P n ds all (⟨some d, .load t x, ty, pos, af, none⟩ :: rest) Q r w :=
  WL.val1 (R_loadA hx (hS.has hi) (ha w) (hs w) hk (sub_cells hc)) kk
theorem S_store {b off i k : Nat} {l l' vs : List Value} {v} {L' : List HProp} (hS : St Γ h L w) (hx : ev r x = .pointer (some ⟨b, off, none⟩)) (hy : ev r y = v) (hi : L[i]? = some (row b l e)) (hs : ∀ w, (sizeOf t).run P w = .ok k w)
    (hv : v.cells.toList = vs) (hk : vs.length = k) (h1 : (vs.all Value.oneCell') = true) (hfit : off + vs.length ≤ l.length) (hl : putl l off vs = l') (hL : L.set i (row b l' e) = L')
    (kk : ∀ w', St Γ h L' w' → WL P n ds all rest Q r w') : WL P n ds all (⟨none, .store t x y, ty, pos, af, none⟩ :: rest) Q r w := by
  subst hl; subst hL
  exact WL.none (R_store hx hy (hS.has hi) (hs w) hv hk (by simpa using h1) hfit) (kk _ (hS.setRow hi))
theorem S_call {f : FuncId} {xs : List Operand} {tys : Array TypeId} {vs : List Value} {dd : Option Nat} (hc : ∀ args w, (callFunc f args).run P w = .ok (.enter f args) w) (hv : xs.map (ev r) = vs)
    (hr : Ret P f vs.toArray w fun v w' => WL P n ds all rest Q (putd n r dd v) w') :
    WL P n ds all (⟨dd, .call ⟨.value (.func f), xs.toArray, tys⟩, ty, pos, af, none⟩ :: rest) Q r w :=
  WL.enter (R_call hc hv rfl) hr
theorem S_callP {f : FuncId} {xs : List Operand} {tys : Array TypeId} {vs : List Value} {v} (hS : St Γ h L w) (hc : ∀ args w, (callFunc f args).run P w = .ok (.enter f args) w) (hv : xs.map (ev r) = vs) {pre} (hp : PureC G P f pre vs v) (hpre : pre h)
    (k : ∀ w', St Γ h L w' → WL P n ds all rest Q (upd n r d v) w') :
    WL P n ds all (⟨some d, .call ⟨.value (.func f), xs.toArray, tys⟩, ty, pos, af, none⟩ :: rest) Q r w :=
  S_call hc hv ((hp Γ h L w hpre hS).mono fun v' w' ⟨hv', hS'⟩ => by subst hv'; exact k w' hS')
theorem S_callF {f : FuncId} {xs : List Operand} {tys : Array TypeId} {vs : List Value} {post} (hS : St Γ h L w) (hc : ∀ args w, (callFunc f args).run P w = .ok (.enter f args) w) (hv : xs.map (ev r) = vs) {pre} (hp : FnC G P f pre vs post) (hpre : pre h)
    (k : ∀ h' v w', h.le h' → post h' v → St Γ h' L w' → WL P n ds all rest Q (upd n r d v) w') :
    WL P n ds all (⟨some d, .call ⟨.value (.func f), xs.toArray, tys⟩, ty, pos, af, none⟩ :: rest) Q r w :=
  S_call hc hv ((hp Γ h L w hpre hS).mono fun v' w' ⟨h', a, b, c⟩ => k h' v' w' a b c)
theorem S_callM {f : FuncId} {xs : List Operand} {tys : Array TypeId} {vs : List Value} {post} {A : HProp} {dd : Option Nat} (i : Nat) (hS : St Γ h L w) (hi : L[i]? = some A) (hc : ∀ args w, (callFunc f args).run P w = .ok (.enter f args) w) (hv : xs.map (ev r) = vs) {pre} (hp : MutC G P f pre vs post) (hpre : pre h A)
    (k : ∀ h' A' v w', h.le h' → post h' A' v → St Γ h' (L.set i A') w' → WL P n ds all rest Q (putd n r dd v) w') :
    WL P n ds all (⟨dd, .call ⟨.value (.func f), xs.toArray, tys⟩, ty, pos, af, none⟩ :: rest) Q r w :=
  S_call hc hv ((hp Γ h (L.set i emp) w A hpre (hS.front hi)).mono fun v' w' ⟨h', A', a, b, c⟩ => k h' A' v' w' a b (c.back hi))
/-- a guarded operation without a mark on the world -/
theorem WL.gpure {dd : Nat} {op j b v} {gd : Bool} (hy : (yl all r j == some b) = gd) (hr : gd = true → (execOp (ev r) ⟨some dd, op, ty, pos, af, some (j, b)⟩).run P w = .ok (.value v) w)
    (hk : WL P n ds all rest Q (upd n r dd (gv gd v)) w) : WL P n ds all (⟨some dd, op, ty, pos, af, some (j, b)⟩ :: rest) Q r w := by
  cases gd with
  | true => exact WL.gval (by simpa using hy) (hr rfl) hk
  | false =>
    refine WL.skip ?_ hk
    cases hh : yl all r j with
    | none => exact .inr rfl
    | some c => left; rw [hh] at hy; cases b <;> cases c <;> simp_all
theorem S_gcallP {f : FuncId} {xs : List Operand} {tys : Array TypeId} {vs : List Value} {v} {j b} {gd : Bool} (hS : St Γ h L w) (hc : ∀ args w, (callFunc f args).run P w = .ok (.enter f args) w) (hy : (yl all r j == some b) = gd)
    (hv : gd = true → xs.map (ev r) = vs) {pre} (hp : gd = true → PureC G P f pre vs v) (hpre : gd = true → pre h)
    (k : ∀ w', St Γ h L w' → WL P n ds all rest Q (upd n r d (gv gd v)) w') :
    WL P n ds all (⟨some d, .call ⟨.value (.func f), xs.toArray, tys⟩, ty, pos, af, some (j, b)⟩ :: rest) Q r w := by
  cases gd with
  | true =>
    refine WL.genter (by simpa using hy) (R_call hc (hv rfl) rfl) ?_
    exact (hp rfl Γ h L w (hpre rfl) hS).mono fun v' w' ⟨hv', hS'⟩ => by subst hv'; exact k w' hS'
  | false =>
    refine WL.skip ?_ (k _ hS)
    cases hh : yl all r j with
    | none => exact .inr rfl
    | some c => left; rw [hh] at hy; cases b <;> cases c <;> simp_all
end
/-- a guard that says yes is as none -/
theorem WL_unguard {P : Program} {n : Nat} {ds : List Deferred} {all rest : List Oper} {Q : Qr} {r : Nat → Value} {w : World} {d : Option Nat} {op ty pos af j b} (hy : yl all r j = some b)
    (h : WL P n ds all (⟨d, op, ty, pos, af, none⟩ :: rest) Q r w) : WL P n ds all (⟨d, op, ty, pos, af, some (j, b)⟩ :: rest) Q r w := by
  intro a ha
  have h1 := h a ha
  unfold wpList at h1 ⊢
  have e1 : Region.wanted ⟨d, op, ty, pos, af, some (j, b)⟩ (Go.yielded all.toArray a.tmps) = true := by simp only [Region.wanted, ha.yielded, hy, beq_self_eq_true]
  have e2 : Region.wanted ⟨d, op, ty, pos, af, none⟩ (Go.yielded all.toArray a.tmps) = true := rfl
  rw [if_pos e1]
  rw [if_pos e2] at h1
  exact h1
theorem yl_none {all : List Oper} {r : Nat → Value} {j d : Nat} (hd : (all[j]?).bind (·.dst) = some d) (h : r d = undef) : yl all r j = none := by
  unfold yl; rw [hd]; simp only [h]; rfl
theorem yl_eq {all : List Oper} {r : Nat → Value} {j d : Nat} {b : Bool} (hd : (all[j]?).bind (·.dst) = some d) (h : r d = .bool b) : yl all r j = some b := by
  unfold yl; rw [hd]; simp only [h]
theorem R_cast {P : Program} {o : Sem Next} {w w' : World} {v v' : Value} (h : o.run P w = .ok (.value v) w') (e : v = v') : o.run P w = .ok (.value v') w' := by rw [← e]; exact h
theorem bool_true {e : Bool} (h : e = true) : Value.bool e = .bool true := by rw [h]
theorem yl_t {all : List Oper} {r : Nat → Value} {j d : Nat} {b : Bool} (hd : (all[j]?).bind (·.dst) = some d) (h : r d = .bool b) : (yl all r j == some true) = b := by
  unfold yl; rw [hd]; simp only [h]; cases b <;> rfl
theorem yl_f {all : List Oper} {r : Nat → Value} {j d : Nat} {b : Bool} (hd : (all[j]?).bind (·.dst) = some d) (h : r d = .bool b) : (yl all r j == some false) = !b := by
  unfold yl; rw [hd]; simp only [h]; cases b <;> rfl
theorem ylg_t {all : List Oper} {r : Nat → Value} {j d : Nat} {g b : Bool} (hd : (all[j]?).bind (·.dst) = some d) (h : r d = gv g (.bool b)) : (yl all r j == some true) = (g && b) := by
  unfold yl; rw [hd]; simp only [h]; cases g <;> cases b <;> rfl
theorem ylg_f {all : List Oper} {r : Nat → Value} {j d : Nat} {g b : Bool} (hd : (all[j]?).bind (·.dst) = some d) (h : r d = gv g (.bool b)) : (yl all r j == some false) = (g && !b) := by
  unfold yl; rw [hd]; simp only [h]; cases g <;> cases b <;> rfl
theorem and_l {a b : Bool} (h : (a && b) = true) : a = true := by cases a <;> simp_all
theorem and_r {a b : Bool} (h : (a && b) = true) : b = true := by cases a <;> simp_all
theorem gvA {g c : Bool} {x v : Value} (hg : g = true) (h : x = gv (g && c) v) : x = gv c v := by subst hg; exact h
theorem b_dec {p : Prop} [Decidable p] : decide p = true ↔ p := decide_eq_true_iff
theorem b_or {a b : Bool} {p q : Prop} (h : a = true ↔ p) (k : b = true ↔ q) : (a || b) = true ↔ (p ∨ q) := by rw [Bool.or_eq_true, h, k]
theorem b_and {a b : Bool} {p q : Prop} (h : a = true ↔ p) (k : b = true ↔ q) : (a && b) = true ↔ (p ∧ q) := by rw [Bool.and_eq_true, h, k]
theorem b_not {a : Bool} {p : Prop} (h : a = true ↔ p) : (!a) = true ↔ ¬ p := by rw [← h]; cases a <;> simp
theorem WC.condI {P : Program} {n : Nat} {ds : List Deferred} {Q : Qr} {r : Nat → Value} {w : World} {c x y} (p : Prop) {b : Bool} (hc : ev r c = .bool b) (hp : b = true ↔ p) (ht : p → WC P n ds x Q r w) (hf : ¬ p → WC P n ds y Q r w) : WC P n ds (.cond c x y) Q r w :=
  WC.cond b hc (fun h => ht (hp.1 h)) (fun h => hf (fun hh => by rw [hp.2 hh] at h; cases h))
/-! what lies in committed memory -/
/-- cells in a row of the committed heap -/
def At (h : Hp) (b off : Nat) (cs : List Value) : Prop := ∃ arr e fz, h b = some (.cells arr e fz) ∧ ∀ j v, cs[j]? = some v → arr[off + j]? = some v
theorem At.mono {h h' : Hp} {b off cs} (k : At h b off cs) (l : h.le h') : At h' b off cs := let ⟨arr, e, fz, h1, h2⟩ := k; ⟨arr, e, fz, l _ _ h1, h2⟩
theorem At.sub {h : Hp} {b off cs} (k : At h b off cs) (i m : Nat) {cs'} (hc : (cs.drop i).take m = cs') : At h b (off + i) cs' := by
  obtain ⟨arr, e, fz, h1, h2⟩ := k
  refine ⟨arr, e, fz, h1, fun j v hj => ?_⟩
  subst hc
  rw [List.getElem?_take] at hj
  split at hj
  · rw [List.getElem?_drop] at hj
    rw [Nat.add_assoc]; exact h2 _ _ hj
  · cases hj
/-- how a type's values lie in cells -/
structure Rp (α : Type) where
  n : Nat
  rel : Hp → α → List Value → Prop
  len : ∀ h x cs, rel h x cs → cs.length = n
  mono : ∀ h k x cs, h.le k → rel h x cs → rel k x cs
  one : ∀ h x cs, rel h x cs → cs.all Value.oneCell' = true
def Rstr : Rp Str := ⟨1, fun _ s cs => cs = [.string (B s)], fun _ _ _ h => by subst h; rfl, fun _ _ _ _ _ h => h, fun _ _ _ h => by subst h; rfl⟩
def Rint (k : IntKind) : Rp Int := ⟨1, fun _ s cs => cs = [.int k s], fun _ _ _ h => by subst h; rfl, fun _ _ _ _ _ h => h, fun _ _ _ h => by subst h; rfl⟩
def Rbool : Rp Bool := ⟨1, fun _ s cs => cs = [.bool s], fun _ _ _ h => by subst h; rfl, fun _ _ _ _ _ h => h, fun _ _ _ h => by subst h; rfl⟩
/-- a slice in committed memory: its elements, where they begin, its capacity -/
def Sl {α : Type} (R : Rp α) (h : Hp) (xs : List α) (a : Option Addr) (c : Nat) : Prop :=
  xs.length ≤ c ∧ ∀ k x, xs[k]? = some x → ∃ b o cs, a = some ⟨b, o, none⟩ ∧ R.rel h x cs ∧ At h b (o + k * R.n) cs
theorem Sl.mono {α} {R : Rp α} {h h' : Hp} {xs a c} (s : Sl R h xs a c) (l : h.le h') : Sl R h' xs a c :=
  ⟨s.1, fun k x hx => let ⟨b, o, cs, h1, h2, h3⟩ := s.2 k x hx; ⟨b, o, cs, h1, R.mono _ _ _ _ l h2, h3.mono l⟩⟩
theorem Sl.nil {α} (R : Rp α) (h : Hp) (a : Option Addr) (c : Nat) : Sl R h [] a c := ⟨Nat.zero_le _, fun _ _ hx => by simp at hx⟩
/-- a slice as the one cell of another thing -/
def Rsl {α : Type} (R : Rp α) : Rp (List α) :=
  ⟨1, fun h xs cs => ∃ a c, cs = [.slice a xs.length c] ∧ Sl R h xs a c, fun _ _ _ ⟨_, _, h, _⟩ => by subst h; rfl, fun _ _ _ _ l ⟨a, c, h1, h2⟩ => ⟨a, c, h1, h2.mono l⟩, fun _ _ _ ⟨_, _, h, _⟩ => by subst h; rfl⟩
/-- the cells of several -/
def Flat {α : Type} (R : Rp α) (h : Hp) : List α → List Value → Prop
  | [], cells => cells = []
  | x :: xs, cells => ∃ cs rest, cells = cs ++ rest ∧ R.rel h x cs ∧ Flat R h xs rest
theorem Flat.mono {α} {R : Rp α} {h h' : Hp} (l : h.le h') : ∀ {xs cells}, Flat R h xs cells → Flat R h' xs cells
  | [], _, f => f
  | _ :: _, _, ⟨cs, rest, h1, h2, h3⟩ => ⟨cs, rest, h1, R.mono _ _ _ _ l h2, h3.mono l⟩
theorem Flat.length {α} {R : Rp α} {h : Hp} : ∀ {xs cells}, Flat R h xs cells → cells.length = xs.length * R.n
  | [], _, f => by subst f; simp
  | _ :: xs, _, ⟨cs, rest, h1, h2, h3⟩ => by
    subst h1
    have := h3.length
    rw [List.length_append, R.len _ _ _ h2, this, List.length_cons, Nat.succ_mul, Nat.add_comm]
theorem Flat.append {α} {R : Rp α} {h : Hp} : ∀ {xs ys c1 c2}, Flat R h xs c1 → Flat R h ys c2 → Flat R h (xs ++ ys) (c1 ++ c2)
  | [], _, _, _, f, k => by subst f; exact k
  | _ :: _, _, _, _, ⟨cs, rest, h1, h2, h3⟩, k => by subst h1; exact ⟨cs, _, by simp, h2, h3.append k⟩
theorem Flat.one {α} {R : Rp α} {h : Hp} : ∀ {xs cells}, Flat R h xs cells → cells.all Value.oneCell' = true
  | [], _, f => by subst f; rfl
  | _ :: _, _, ⟨cs, rest, h1, h2, h3⟩ => by subst h1; rw [List.all_append, R.one _ _ _ h2, h3.one]; rfl
theorem Flat.at {α} {R : Rp α} {h : Hp} : ∀ {xs cells}, Flat R h xs cells → ∀ k x, xs[k]? = some x → ∃ cs, R.rel h x cs ∧ (cells.drop (k * R.n)).take R.n = cs
  | [], _, _, k, x, hx => by simp at hx
  | y :: ys, _, ⟨cs, rest, h1, h2, h3⟩, k, x, hx => by
    subst h1
    have hl := R.len _ _ _ h2
    cases k with
    | zero =>
      simp at hx; subst hx
      exact ⟨cs, h2, by simp [← hl]⟩
    | succ k =>
      simp at hx
      obtain ⟨cs', k1, k2⟩ := h3.at k x hx
      refine ⟨cs', k1, ?_⟩
      rw [← k2, Nat.succ_mul, List.drop_append, List.drop_eq_nil_of_le (by omega), List.nil_append]
      congr 2
      omega
theorem Flat.single {α} {R : Rp α} {h : Hp} {x cs} (k : R.rel h x cs) : Flat R h [x] cs := ⟨cs, [], by simp, k, rfl⟩
/-- a committed row of such cells is a slice -/
theorem Sl.of_flat {α} {R : Rp α} {h : Hp} {xs cells} (f : Flat R h xs cells) {b : Nat} {arr e fz} (hb : h b = some (.cells arr e fz)) {o : Nat} (hc : (arr.toList.drop o).take cells.length = cells) (c : Nat) (hcap : xs.length ≤ c) : Sl R h xs (some ⟨b, o, none⟩) c := by
  refine ⟨hcap, fun k x hx => ?_⟩
  obtain ⟨cs, h1, h2⟩ := f.at k x hx
  refine ⟨b, o, cs, rfl, h1, arr, e, fz, hb, fun j v hj => ?_⟩
  have hlen := R.len _ _ _ h1
  have hj' : j < cs.length := by
    rcases Nat.lt_or_ge j cs.length with h | h
    · exact h
    · rw [List.getElem?_eq_none h] at hj; cases hj
  rw [← h2, List.getElem?_take, if_pos (by omega), List.getElem?_drop, ← hc, List.getElem?_take] at hj
  split at hj
  · rw [List.getElem?_drop] at hj
    rw [← Array.getElem?_toList, Nat.add_assoc]; exact hj
  · cases hj
/-- the cells of a slice, flat -/
theorem Sl.flat {α} {R : Rp α} {h : Hp} : ∀ {xs a c}, Sl R h xs a c → ∃ cells, Flat R h xs cells ∧ (xs = [] ∨ R.n = 0 ∨ ∃ b o, a = some ⟨b, o, none⟩ ∧ At h b o cells) := by
  intro xs a c s
  by_cases hx : xs = []
  · subst hx; exact ⟨[], rfl, .inl rfl⟩
  by_cases hn : R.n = 0
  · -- no cells at all
    have : ∀ ys : List α, (∀ y ∈ ys, ∃ cs, R.rel h y cs) → ∃ cells, Flat R h ys cells := by
      intro ys
      induction ys with
      | nil => exact fun _ => ⟨[], rfl⟩
      | cons y ys ih =>
        intro hy
        obtain ⟨cs, hcs⟩ := hy y (by simp)
        obtain ⟨rest, hr⟩ := ih (fun z hz => hy z (by simp [hz]))
        exact ⟨cs ++ rest, cs, rest, rfl, hcs, hr⟩
    obtain ⟨cells, hc⟩ := this xs fun y hy => by
      obtain ⟨k, hk⟩ := List.getElem?_of_mem hy
      obtain ⟨b, o, cs, _, h2, _⟩ := s.2 k y hk
      exact ⟨cs, h2⟩
    exact ⟨cells, hc, .inr (.inl hn)⟩
  · obtain ⟨x0, xs0, rfl⟩ : ∃ x0 xs0, xs = x0 :: xs0 := by cases xs with | nil => exact absurd rfl hx | cons a b => exact ⟨a, b, rfl⟩
    obtain ⟨b, o, cs0, ha, h2, h3⟩ := s.2 0 x0 rfl
    subst ha
    have key : ∀ (ys : List α) (m : Nat), (∀ k y, ys[k]? = some y → ∃ cs, R.rel h y cs ∧ At h b (o + (m + k) * R.n) cs) → ys ≠ [] → ∃ cells, Flat R h ys cells ∧ At h b (o + m * R.n) cells := by
      intro ys
      induction ys with
      | nil => intro m _ hne; exact absurd rfl hne
      | cons y ys ih =>
        intro m hy _
        obtain ⟨cs, h4, h5⟩ := hy 0 y rfl
        rw [Nat.add_zero] at h5
        by_cases hys : ys = []
        · subst hys; exact ⟨cs, Flat.single h4, h5⟩
        · obtain ⟨rest, h6, h7⟩ := ih (m + 1) (fun k z hz => by have := hy (k + 1) z (by simpa using hz); rwa [show m + (k + 1) = m + 1 + k by omega] at this) hys
          refine ⟨cs ++ rest, ⟨cs, rest, rfl, h4, h6⟩, ?_⟩
          obtain ⟨arr, e, fz, k1, k2⟩ := h5
          obtain ⟨arr', e', fz', k1', k2'⟩ := h7
          rw [k1] at k1'
          injection k1' with k1'
          injection k1' with k1'
          subst k1'
          refine ⟨arr, e, fz, k1, fun j v hj => ?_⟩
          have hl := R.len _ _ _ h4
          by_cases hlt : j < cs.length
          · rw [List.getElem?_append_left hlt] at hj; exact k2 j v hj
          · rw [List.getElem?_append_right (by omega)] at hj
            have := k2' _ v hj
            rwa [show o + (m + 1) * R.n + (j - cs.length) = o + m * R.n + j by rw [Nat.succ_mul]; omega] at this
    obtain ⟨cells, h4, h5⟩ := key (x0 :: xs0) 0 (fun k y hy => by
      obtain ⟨b', o', cs, e1, e2, e3⟩ := s.2 k y hy
      injection e1 with e1
      injection e1 with e1 e4
      subst e1; subst e4
      exact ⟨cs, e2, by simpa using e3⟩) (by simp)
    exact ⟨cells, h4, .inr (.inr ⟨b, o, rfl, by simpa using h5⟩)⟩
/-- a part of a slice -/
theorem Sl.part {α} {R : Rp α} {h : Hp} {xs a c} (s : Sl R h xs a c) (i j : Nat) (hij : i ≤ j) (hj : j ≤ xs.length) :
    Sl R h ((xs.take j).drop i) (if c = i then a else a.map (·.add (i * R.n))) (c - i) := by
  refine ⟨by simp; have := s.1; omega, fun k x hx => ?_⟩
  rw [List.getElem?_drop, List.getElem?_take] at hx
  split at hx
  · obtain ⟨b, o, cs, h1, h2, h3⟩ := s.2 _ x hx
    subst h1
    rw [if_neg (by have := s.1; omega)]
    refine ⟨b, o + i * R.n, cs, ?_, h2, ?_⟩
    · simp [add_lit]
    · rwa [Nat.add_assoc, ← Nat.add_mul]
  · cases hx
section
variable {G : World → Prop} {Γ : Ctx G} {h : Hp} {L : List HProp} {P : Program} {n : Nat} {ds : List Deferred} {all rest : List Oper} {Q : Qr} {r : Nat → Value} {w : World}
  {d : Nat} {ty : TypeId} {pos : String} {af : Array Edge} {x y : Operand} {t e : TypeId} {g : Option (Nat × Bool)}
/-- the address of an element -/
theorem R_indexAddr {ρ : Operand → Value} {dd : Option Nat} {b o len c size : Nat} {k : IntKind} {i : Int} {m : Nat} (hx : ρ x = .slice (some ⟨b, o, none⟩) len c) (hy : ρ y = .int k i) (ht : P.underlying t = some (.slice e)) (hs : (sizeOf e).run P w = .ok size w) (hi : i = m) (hm : m < len) :
    (execOp ρ ⟨dd, .indexAddr t x y, ty, pos, af, g⟩).run P w = .ok (.value (.pointer (some ⟨b, o + m * size, none⟩))) w := by
  subst hi
  have e1 : 0 ≤ (m : Int) ∧ (m : Int) < len := by omega
  simp [execOp, Instr.indexAt, hx, hy, asIntOf, run_underlying ht, hs, add_lit, hm]
theorem R_indexAddrE {ρ : Operand → Value} {dd : Option Nat} {a : Option Addr} {b o len c size : Nat} {k : IntKind} {i : Int} {m : Nat} (ha : a = some ⟨b, o, none⟩) (hx : ρ x = .slice a len c) (hy : ρ y = .int k i) (ht : P.underlying t = some (.slice e)) (hs : (sizeOf e).run P w = .ok size w) (hi : i = m) (hm : m < len) :
    (execOp ρ ⟨dd, .indexAddr t x y, ty, pos, af, g⟩).run P w = .ok (.value (.pointer (some ⟨b, o + m * size, none⟩))) w := by
  subst ha; exact R_indexAddr hx hy ht hs hi hm
theorem S_index {α} {R : Rp α} {xs : List α} {a c} {k : IntKind} {i : Int} {m : Nat} {z : α} (hs : Sl R h xs a c) (hx : ev r x = .slice a xs.length c) (hy : ev r y = .int k i) (ht : P.underlying t = some (.slice e)) (hsz : ∀ w, (sizeOf e).run P w = .ok R.n w) (hi : i = m) (hm : xs[m]? = some z)
    (kk : ∀ b o cs, a = some ⟨b, o, none⟩ → R.rel h z cs → At h b (o + m * R.n) cs → WL P n ds all rest Q (upd n r d (.pointer (some ⟨b, o + m * R.n, none⟩))) w) :
    WL P n ds all (⟨some d, .indexAddr t x y, ty, pos, af, none⟩ :: rest) Q r w := by
  obtain ⟨b, o, cs, h1, h2, h3⟩ := hs.2 m z hm
  subst h1
  have hlt : m < xs.length := by
    rcases Nat.lt_or_ge m xs.length with h | h
    · exact h
    · rw [List.getElem?_eq_none h] at hm; cases hm
  exact WL.val1 (R_indexAddr hx hy ht (hsz w) hi hlt) (kk b o cs rfl h2 h3)
theorem R_loadC {ρ : Operand → Value} {dd : Option Nat} {b off : Nat} {cs : List Value} {v} (hS : St Γ h L w) (hx : ρ x = .pointer (some ⟨b, off, none⟩)) (ha : At h b off cs) (hg : ∀ w, (isAgg t).run P w = .ok false w) (hv : cs[0]? = some v) :
    (execOp ρ ⟨dd, .load t x, ty, pos, af, g⟩).run P w = .ok (.value v) w := by
  obtain ⟨arr, e, fz, h1, h2⟩ := ha
  exact R_load hx (hS.hin _ _ h1) (hg w) (by have := h2 0 v hv; simpa using this)
theorem R_loadCA {ρ : Operand → Value} {dd : Option Nat} {b off k : Nat} {cs : List Value} (hS : St Γ h L w) (hx : ρ x = .pointer (some ⟨b, off, none⟩)) (ha : At h b off cs) (hg : ∀ w, (isAgg t).run P w = .ok true w) (hs : ∀ w, (sizeOf t).run P w = .ok k w) (hk : cs.length = k) :
    (execOp ρ ⟨dd, .load t x, ty, pos, af, g⟩).run P w = .ok (.value (.agg cs.toArray)) w := by
  obtain ⟨arr, e, fz, h1, h2⟩ := ha
  exact R_loadA hx (hS.hin _ _ h1) (hg w) (hs w) hk h2
end
/-! a slice that grows -/
/-- a slice of one's own: its elements, its place, its capacity -/
def grow {α : Type} (e : TypeId) (R : Rp α) (h : Hp) (xs : List α) (a : Option Addr) (c : Nat) : HProp := fun g =>
  (a = none ∧ c = 0 ∧ xs = [] ∧ ∀ b, g b = none) ∨
  ∃ b cur cells, a = some ⟨b, 0, none⟩ ∧ blk b (.cells cur e (0, 0)) g ∧ xs.length ≤ c ∧ c ≤ maxLen ∧ cur.size = c * R.n ∧ Flat R h xs cells ∧ cur.toList.take cells.length = cells
section
variable {G : World → Prop} {Γ : Ctx G} {h : Hp} {L : List HProp} {w : World} {α : Type} {R : Rp α} {e : TypeId} {xs : List α} {a : Option Addr} {c : Nat}
/-- a nil slice is one that grows -/
theorem St.growNil (hS : St Γ h L w) (e : TypeId) (R : Rp α) (h0 : Hp) : St Γ h (grow e R h0 [] none 0 :: L) w :=
  hS.push ⟨fun _ => none, .inl ⟨rfl, rfl, rfl, fun _ => rfl⟩, fun _ _ hb => (by cases hb), fun _ _ hb => (by cases hb)⟩ (Ext.refl w)
/-- a row of cells is one -/
theorem St.growRow {i b : Nat} {l : List Value} {h0 : Hp} (hS : St Γ h L w) (hi : L[i]? = some (row b l e)) (f : Flat R h0 xs l) (hm : xs.length ≤ maxLen) : St Γ h (L.set i (grow e R h0 xs (some ⟨b, 0, none⟩) xs.length)) w :=
  hS.conv hi fun _ hg => .inr ⟨b, l.toArray, l, rfl, hg, Nat.le_refl _, hm, by simpa using f.length, f, by simp⟩
theorem St.growMono {i : Nat} {h0 h1 : Hp} (hS : St Γ h L w) (hi : L[i]? = some (grow e R h0 xs a c)) (l : h0.le h1) : St Γ h (L.set i (grow e R h1 xs a c)) w :=
  hS.conv hi fun _ hg => by
    rcases hg with hg | ⟨b, cur, cells, h1, h2, h3, h4, h5, h6, h7⟩
    · exact .inl hg
    · exact .inr ⟨b, cur, cells, h1, h2, h3, h4, h5, h6.mono l, h7⟩
/-- it is handed over -/
theorem St.growCommit {i : Nat} {h0 : Hp} (hS : St Γ h L w) (hi : L[i]? = some (grow e R h0 xs a c)) (l : h0.le h) : ∃ h', h.le h' ∧ Sl R h' xs a c ∧ St Γ h' (L.set i emp) w := by
  obtain ⟨g1, h', k1, k2, k3, k4⟩ := hS.commit hi
  refine ⟨h', k2, ?_, k4⟩
  rcases k1 with ⟨_, h2, h3, _⟩ | ⟨b, cur, cells, h1, h2, h3, h4, h5, h6, h7⟩
  · subst h3; exact Sl.nil _ _ _ _
  · subst h1
    have hb : h' b = some (.cells cur e (0, 0)) := k3 _ _ (by rw [h2 b, if_pos rfl])
    exact Sl.of_flat (h6.mono (l.trans k2)) hb (by simpa using h7) c h3
/-- it is lent for a while: what only reads may have it as committed, and the state behind is given back -/
theorem St.lend {i : Nat} {A : HProp} (hS : St Γ h L w) (hi : L[i]? = some A) : ∃ g1 h', A g1 ∧ h.le h' ∧ (∀ b o, g1 b = some o → h' b = some o) ∧ St Γ h' (L.set i emp) w ∧ ∀ w', St Γ h' (L.set i emp) w' → St Γ h L w' := by
  obtain ⟨g, h1, h2, h3, h4⟩ := hS.ex
  obtain ⟨g1, g2, j1, j2, j3, j4⟩ := Sats.split hi h1
  have hg1 : ∀ b o, g1 b = some o → g b = some o := fun b o hb => by rw [j3, hb]; rfl
  have hh1 : ∀ b o, g1 b = some o → h b = none := fun b o hb => by
    rcases h3 b with h | h
    · exact h
    · rw [hg1 b o hb] at h; cases h
  have hg2 : ∀ b o, g2 b = some o → g b = some o := fun b o hb => by
    rw [j3]; rcases j2 b with h | h
    · rw [h, hb]; rfl
    · rw [h] at hb; cases hb
  have hle : h.le (fun b => (h b).or (g1 b)) := fun b o hb => by simp [hb]
  have hlt : i < L.length := by
    rcases Nat.lt_or_ge i L.length with h | h
    · exact h
    · rw [List.getElem?_eq_none h] at hi; cases hi
  refine ⟨g1, fun b => (h b).or (g1 b), j1, hle, fun b o hb => by simp [hh1 b o hb, hb], ?_, fun w' hS' => ?_⟩
  · refine ⟨hS.keep, fun b o hb => ?_, _, j4 emp (fun _ => none) (fun _ => rfl) (fun _ => .inl rfl), fun b o hb => h2 b o (hg2 b o (by simpa using hb)), fun b => ?_, fun b o hb => h4 b o (hg2 b o (by simpa using hb))⟩
    · cases hg : h b with
      | none => rw [hg] at hb; exact h2 b o (hg1 b o (by simpa using hb))
      | some o1 => rw [hg] at hb; simp at hb; subst hb; exact hS.hin b o1 hg
    · cases hb : g2 b with
      | none => right; simp [hb]
      | some o =>
        left
        have e1 : h b = none := by
          rcases h3 b with h' | h'
          · exact h'
          · rw [hg2 b o hb] at h'; cases h'
        have e2 : g1 b = none := by
          rcases j2 b with h' | h'
          · exact h'
          · rw [hb] at h'; cases h'
        simp [e1, e2]
  · obtain ⟨f, f1, f2, f3, f4⟩ := hS'.ex
    have hi' : (L.set i emp)[i]? = some emp := by rw [List.getElem?_set_self hlt]
    obtain ⟨e1, e2, m1, m2, m3, m4⟩ := Sats.split hi' f1
    have he2 : ∀ b, f b = e2 b := fun b => by rw [m3 b, m1 b]; rfl
    have hd : Disj g1 e2 := fun b => by
      cases hb : g1 b with
      | none => exact .inl rfl
      | some o =>
        right
        rcases f3 b with h' | h'
        · simp [hh1 b o hb, hb] at h'
        · rw [← he2]; exact h'
    have hs := m4 A g1 j1 hd
    have hset : L.set i A = L := by
      apply List.ext_getElem?
      intro j
      rw [List.getElem?_set]
      split
      · rename_i e1; subst e1; exact hi.symm
      · rfl
    rw [List.set_set, hset] at hs
    refine ⟨hS'.keep, fun b o hb => hS'.hin b o (hle b o hb), _, hs, fun b o hb => ?_, fun b => ?_, fun b o hb => ?_⟩
    · cases hg : g1 b with
      | none => simp only [hg, Option.none_or] at hb; exact f2 b o (by rw [he2]; exact hb)
      | some o1 => simp only [hg, Option.some_or, Option.some.injEq] at hb; subst hb; exact hS'.hin b o1 (by simp [hh1 b o1 hg, hg])
    · cases hb : h b with
      | none => exact .inl rfl
      | some o =>
        right
        have k1 : g1 b = none := by
          cases hg : g1 b with
          | none => rfl
          | some o1 => rw [hh1 b o1 hg] at hb; cases hb
        have k2 : e2 b = none := by
          rcases f3 b with h' | h'
          · simp [hb] at h'
          · rw [← he2]; exact h'
        simp [k1, k2]
    · cases hg : g1 b with
      | none => simp only [hg, Option.none_or] at hb; exact f4 b o (by rw [he2]; exact hb)
      | some o1 => exact h4 b o1 (hg1 b o1 hg)
end
end Go.Eng
