/- Structs held against each other; slices of slices; making and copying one's own. -/
import Derived.Test.YtcnhcckbdmjdiaaGreatDoorEng11
import Derived.Laws.StructEq
import Derived.Laws.MakeOwn
set_option linter.all false
set_option linter.unusedSimpArgs false
set_option linter.unusedVariables false
namespace Go.Eng
open Go
theorem b_true : (true = true) ↔ True := ⟨fun _ => trivial, fun _ => rfl⟩
section
variable {P : Program} {d : Nat} {xs ys : Array Value}
theorem eqFields_nil : ∀ w, (Op.eqFields d xs ys []).run P w = .ok true w := fun _ => rfl
theorem eqFields_cons {f : Field} {fs : List Field} {a b : Value} {c rest : Bool} (hn : f.name ≠ "_") (ha : ∀ w, (isAgg f.type).run P w = .ok false w) (hx : xs[f.offset]? = some a) (hy : ys[f.offset]? = some b)
    (hc : ∀ w, (Op.equalIn d f.type a b).run P w = .ok c w) (hr : ∀ w, (Op.eqFields d xs ys fs).run P w = .ok rest w) : ∀ w, (Op.eqFields d xs ys (f :: fs)).run P w = .ok (c && rest) w := by
  intro w
  have h1 : ∀ (zs : Array Value) v w, zs[f.offset]? = some v → (part f.type zs f.offset).run P w = .ok v w := by
    intro zs v w hz
    simp [part, ha, hz]
  cases c <;> simp [Op.eqFields, hn, h1 xs a w hx, h1 ys b w hy, hc, hr, Result.andThen]
theorem eqIn_str {t : TypeId} {a b : Str} (h : P.underlying t = some .string) : ∀ w, (Op.equalIn (d + 1) t (.string (B a)) (.string (B b))).run P w = .ok (decide (a = b)) w := by
  intro w
  rw [run_equalIn_string w d t _ _ h, B_toList, B_toList]
  congr 1
  by_cases h : a = b <;> simp [h]
theorem eqIn_bool {t : TypeId} {a b : Bool} (h : P.underlying t = some .bool) : ∀ w, (Op.equalIn (d + 1) t (.bool a) (.bool b)).run P w = .ok (decide (a = b)) w := by
  intro w
  rw [run_equalIn_bool' w d t _ _ h]
  cases a <;> cases b <;> rfl
theorem eqIn_int {t : TypeId} {k k' : IntKind} {a b : Int} (h : P.underlying t = some (.int k')) : ∀ w, (Op.equalIn (d + 1) t (.int k a) (.int k b)).run P w = .ok (decide (a = b)) w := by
  intro w
  rw [run_equalIn_int w d t _ _ _ _ h]
  congr 1
end
section
variable {P : Program} {ρ : Operand → Value} {w : World} {d : Option Nat} {ty : TypeId} {pos : String} {af : Array Edge} {g : Option (Nat × Bool)} {x y : Operand} {t yt : TypeId} {xs ys : Array Value} {fs : Array Field} {c : Bool}
theorem eqS {n : Nat} (ht : P.underlying t = some (.struct fs)) (hp : P.stoodInHeld t = false) (hf : ∀ w, (Op.eqFields n xs ys fs.toList).run P w = .ok c w) : (Op.equalIn (n + 1) t (.agg xs) (.agg ys)).run P w = .ok c w := by
  have e : P.fieldsOf t = fs := by unfold Program.fieldsOf; rw [ht]
  rw [run_equalIn_agg w n t xs ys (by rw [e]; exact ht) hp, e]
  exact hf w
theorem R_aggEql (hx : ρ x = .agg xs) (hy : ρ y = .agg ys) (hm : P.eqGuardType P.depth t = false) (ht : P.underlying t = some (.struct fs)) (hp : P.stoodInHeld t = false) (hf : ∀ w, (Op.eqFields 9999 xs ys fs.toList).run P w = .ok c w) :
    (execOp ρ ⟨d, .binOp .eql t x y yt, ty, pos, af, g⟩).run P w = .ok (.value (.bool c)) w := by
  simp [execOp, hx, hy, run_eqGuard_agg w .eql t x y xs ys hm, run_eql_struct, eqS ht hp hf, Result.andThen]
theorem R_aggNeq (hx : ρ x = .agg xs) (hy : ρ y = .agg ys) (hm : P.eqGuardType P.depth t = false) (ht : P.underlying t = some (.struct fs)) (hp : P.stoodInHeld t = false) (hf : ∀ w, (Op.eqFields 9999 xs ys fs.toList).run P w = .ok c w) :
    (execOp ρ ⟨d, .binOp .neq t x y yt, ty, pos, af, g⟩).run P w = .ok (.value (.bool (!c))) w := by
  simp [execOp, hx, hy, run_eqGuard_agg w .neq t x y xs ys hm, run_neq_struct, eqS ht hp hf, Result.andThen]
end
section
variable {P : Program} {ρ : Operand → Value} {w : World} {d : Option Nat} {ty : TypeId} {pos : String} {af : Array Edge} {g : Option (Nat × Bool)} {x : Operand} {t e : TypeId} {a : Option Addr} {n c size : Nat}
/-- s[lo:] -/
theorem R_sll {k : IntKind} {i : Int} {m : Nat} {lo : Operand} (hx : ρ x = .slice a n c) (hlo : ρ lo = .int k i) (ht : P.underlying t = some (.slice e)) (hs : (sizeOf e).run P w = .ok size w) (hm : i = m) (h1 : m ≤ n) :
    (execOp ρ ⟨d, .slice t x (some lo) none none, ty, pos, af, g⟩).run P w = .ok (.value (.slice (if c = m then a else a.map (·.add (m * size))) (n - m) (c - m))) w := by
  subst hm
  have e2 : 0 ≤ (m : Int) ∧ (m : Int) ≤ (n : Int) := by omega
  simp [execOp, Instr.sliceAt, Instr.slice, hx, hlo, run_underlying ht, Instr.sliceBounds, Instr.sliceBound, asIntOf, e2, h1, hs]
/-- s[:hi] -/
theorem R_slh {k : IntKind} {j : Int} {m : Nat} {hi : Operand} (hx : ρ x = .slice a n c) (hhi : ρ hi = .int k j) (ht : P.underlying t = some (.slice e)) (hs : (sizeOf e).run P w = .ok size w) (hm : j = m) (h1 : m ≤ c) :
    (execOp ρ ⟨d, .slice t x none (some hi) none, ty, pos, af, g⟩).run P w = .ok (.value (.slice (if c = 0 then a else a.map (·.add (0 * size))) m c)) w := by
  subst hm
  have e2 : 0 ≤ (m : Int) ∧ (m : Int) ≤ (c : Int) := by omega
  simp [execOp, Instr.sliceAt, Instr.slice, hx, hhi, run_underlying ht, Instr.sliceBounds, Instr.sliceBound, asIntOf, e2, h1, hs]
end
theorem Sl.from {α} {R : Rp α} {h : Hp} {xs a c} (s : Sl R h xs a c) (i : Nat) (hi : i ≤ xs.length) : Sl R h (xs.drop i) (if c = i then a else a.map (·.add (i * R.n))) (c - i) := by
  have := s.part i xs.length hi (Nat.le_refl _)
  rwa [List.take_length] at this
theorem Sl.upto {α} {R : Rp α} {h : Hp} {xs a c} (s : Sl R h xs a c) (j : Nat) (hj : j ≤ xs.length) : Sl R h (xs.take j) (if c = 0 then a else a.map (·.add (0 * R.n))) c := by
  have := s.part 0 j (Nat.zero_le _) hj
  rwa [List.drop_zero, Nat.sub_zero] at this
/-- a block of one's own of some cells -/
def made (e : TypeId) (k b : Nat) : HProp := fun g => ∃ cur, blk b (.cells cur e (0, 0)) g ∧ cur.size = k
theorem putl_take {l cells vs : List Value} {off : Nat} (hc : l.take cells.length = cells) (hf : off + vs.length ≤ cells.length) : (putl l off vs).take cells.length = putl cells off vs := by
  have hl : l = cells ++ l.drop cells.length := by
    have := List.take_append_drop cells.length l
    rw [hc] at this; exact this.symm
  generalize l.drop cells.length = rest at hl
  clear hc
  subst hl
  unfold putl
  rw [List.take_append_of_le_length (l₁ := cells) (by omega), List.drop_append_of_le_length (l₁ := cells) (by omega), ← List.append_assoc]
  have : (cells.take off ++ vs ++ cells.drop (off + vs.length)).length = cells.length := by simp; omega
  rw [List.take_append_of_le_length (by rw [this]; exact Nat.le_refl _), List.take_of_length_le (by rw [this]; exact Nat.le_refl _)]
theorem putl_length {l vs : List Value} {off : Nat} (hf : off + vs.length ≤ l.length) : (putl l off vs).length = l.length := by unfold putl; simp; omega
theorem Flat.set {α} {R : Rp α} {h : Hp} : ∀ {xs : List α} {cells : List Value}, Flat R h xs cells → ∀ {m : Nat} {x : α} {vs : List Value}, m < xs.length → R.rel h x vs → Flat R h (xs.set m x) (putl cells (m * R.n) vs)
  | [], _, _, _, _, _, hm, _ => by simp at hm
  | y :: ys, _, ⟨cs, rest, h1, h2, h3⟩, 0, x, vs, _, hx => by
    subst h1
    have l1 := R.len _ _ _ h2
    have l2 := R.len _ _ _ hx
    refine ⟨vs, rest, ?_, hx, h3⟩
    unfold putl
    rw [Nat.zero_mul, List.take_zero, Nat.zero_add, l2, ← l1, List.drop_left, List.nil_append]
  | y :: ys, _, ⟨cs, rest, h1, h2, h3⟩, m + 1, x, vs, hm, hx => by
    subst h1
    have l1 := R.len _ _ _ h2
    refine ⟨cs, putl rest (m * R.n) vs, ?_, h2, h3.set (by simpa using hm) hx⟩
    unfold putl
    have e1 : (m + 1) * R.n = cs.length + m * R.n := by rw [l1, Nat.succ_mul]; omega
    rw [e1, Nat.add_assoc, List.take_length_add_append, List.drop_length_add_append]
    simp [List.append_assoc]
section
variable {G : World → Prop} {Γ : Ctx G} {h : Hp} {L : List HProp} {P : Program} {n : Nat} {ds : List Deferred} {all rest : List Oper} {Q : Qr} {r : Nat → Value} {w : World}
  {d : Nat} {ty : TypeId} {pos : String} {af : Array Edge} {x y z : Operand} {t e : TypeId}
theorem S_makeSlice {info : TypeInfo} {zv : Value} {m k bytes : Nat} (hS : St Γ h L w) (ht : P.underlying t = some (.slice e)) (hi : P.info? e = some info) (hz : info.zero = some zv) (hk : info.size = k) (hby : info.bytes = bytes)
    (hx : ev r x = .int .i64 (m : Int)) (hy : ev r y = .int .i64 (m : Int)) (hb : bytes * m ≤ 281474976710656) (h63 : m ≤ 9223372036854775807)
    (kk : ∀ w', St Γ h (made e (m * k) w.heap.size :: L) w' → WL P n ds all rest Q (upd n r d (.slice (some ⟨w.heap.size, 0, none⟩) m m)) w') :
    WL P n ds all (⟨some d, .makeSlice t x y, ty, pos, af, none⟩ :: rest) Q r w := by
  subst hk; subst hby
  have hr := run_make (P := P) w t e info zv ht hi hz .i64 .i64 m m (by omega) (by omega) (by rw [← Int.natCast_mul]; omega) (by omega)
  refine WL.val1 (v := .slice (some ⟨w.heap.size, 0, none⟩) m m) (w' := w.alloc (.cells (madeCells zv.cells (m * info.size)) e)) ?_ (kk _ ?_)
  · simp only [Int.toNat_natCast] at hr
    simp [execOp, hx, hy, hr]
  · exact (hS.alloc (.cells (madeCells zv.cells (m * info.size)) e)).conv (i := 0) rfl fun g hg => ⟨_, hg, size_madeCells _ _⟩
theorem S_copyAll {α} {R : Rp α} {ys : List α} {a2 : Option Addr} {c2 b i m : Nat} {t2 : TypeId} {info : TypeInfo} {L' : List HProp} (hS : St Γ h L w) (hi : L[i]? = some (made e (m * R.n) b)) (hs : Sl R h ys a2 c2) (hm : ys.length = m) (hR : R.n ≠ 0)
    (ht : P.underlying t = some (.slice e)) (hinfo : P.info? e = some info) (hsz : info.size = R.n) (hx : ev r x = .slice (some ⟨b, 0, none⟩) m m) (hy : ev r y = .slice a2 m c2) (h63 : m ≤ 9223372036854775807)
    (hL : L.set i (grow e R h ys (some ⟨b, 0, none⟩) m) = L')
    (kk : ∀ w', St Γ h L' w' → WL P n ds all rest Q (upd n r d (.int .i64 (m : Int))) w') :
    WL P n ds all (⟨some d, .call ⟨.builtin .copy, [x, y].toArray, [t, t2].toArray⟩, ty, pos, af, none⟩ :: rest) Q r w := by
  subst hL; subst hm
  obtain ⟨cells2, hf2, hat⟩ := hs.flat
  have hl2 : cells2.length = ys.length * R.n := hf2.length
  obtain ⟨g1, ⟨cur, k1, k2⟩, k3, _⟩ := hS.look hi
  have hb : w.heap[b]? = some (.cells cur e (0, 0)) := k3 _ _ (by rw [k1 b, if_pos rfl])
  have hfirst : ∀ w', w' = w → (Builtin.firstCells info.size ys.length (.slice a2 ys.length c2)).run P w' = .ok cells2.toArray w' := by
    intro w' e1; subst e1
    rcases hat with h1 | h1 | ⟨b2, o2, h1, h2⟩
    · subst h1
      have : cells2 = [] := hf2
      subst this
      cases a2 <;> simp [Builtin.firstCells, loadCells, loadCellsFrom]
    · exact absurd h1 hR
    · subst h1
      exact run_firstCells_some (P := P) w' info.size ys.length ⟨b2, o2, none⟩ ys.length c2 cells2 (by rw [hsz]; exact hl2) (h2.cells hS)
  have hone : ∀ u ∈ cells2, u.oneCell' = true := by have := hf2.one; simpa using this
  have hst := run_storeCells_at P b 0 e cells2 0 cur w hb (by omega) hone
  have hdrop : cur.toList.take (0 + 0) ++ cells2 ++ cur.toList.drop (0 + 0 + cells2.length) = cells2 := by
    rw [List.drop_eq_nil_of_le (by simp; omega)]; simp
  rw [hdrop] at hst
  refine WL.val1 (v := .int .i64 (ys.length : Int)) (w' := w.setRow b cells2.toArray) ?_ (kk _ ?_)
  · simp [execOp, resolve, invoke, builtin, hx, hy, Builtin.copy_, run_underlying ht, Builtin.lenOf, sizeOf, typeInfo, hinfo, hfirst w rfl, hst, goInt, Result.andThen]
  · refine hS.act hi fun g2 ⟨cur2, q1, q2⟩ hin _ => ⟨single b (.cells cells2.toArray e (0, 0)), ?_, ?_, ?_, ?_⟩
    · exact .inr ⟨b, cells2.toArray, cells2, rfl, fun _ => rfl, Nat.le_refl _, by simpa [maxLen] using h63, by simp [hl2], hf2, by simp⟩
    · intro c o hc
      unfold single at hc; split at hc
      · rename_i e1; subst e1; rw [setRow_heap w c _ _ _ _ hb]; exact hc
      · cases hc
    · intro c o hc
      unfold single at hc; split at hc
      · rename_i e1; subst e1; exact .inl ⟨_, by rw [q1 c, if_pos rfl]⟩
      · cases hc
    · have := setRow_stp w b cells2.toArray
      refine ⟨this.os, this.tape, this.output, this.size, fun c hc hn => this.old c hc fun e1 => hn ?_⟩
      subst e1; exact ⟨_, by rw [q1 c, if_pos rfl]⟩
/-- where an own slice lies that has an element -/
theorem St.growSome {α} {R : Rp α} {h0 : Hp} {xs : List α} {a : Option Addr} {c i m : Nat} (hS : St Γ h L w) (hi : L[i]? = some (grow e R h0 xs a c)) (hm : m < xs.length) : ∃ b, a = some ⟨b, 0, none⟩ := by
  obtain ⟨g1, k1, _⟩ := hS.look hi
  rcases k1 with ⟨_, _, k3, _⟩ | ⟨b, _, _, k, _⟩
  · subst k3; simp at hm
  · exact ⟨b, k⟩
/-- an element of one's own slice is set -/
theorem S_storeG {α} {R : Rp α} {h0 : Hp} {xs : List α} {a : Option Addr} {b c i m off : Nat} {v : Value} {vs : List Value} {z : α} {L' : List HProp} (hS : St Γ h L w) (hi : L[i]? = some (grow e R h0 xs a c)) (hle : h0.le h) (ha : a = some ⟨b, 0, none⟩) (hm : m < xs.length)
    (hx : ev r x = .pointer (some ⟨b, off, none⟩)) (ho : off = m * R.n) (hy : ev r y = v) (hv : v.cells.toList = vs) (hrel : R.rel h z vs) (hs : ∀ w, (sizeOf t).run P w = .ok R.n w)
    (hL : L.set i (grow e R h (xs.set m z) a c) = L') (kk : ∀ w', St Γ h L' w' → WL P n ds all rest Q r w') :
    WL P n ds all (⟨none, .store t x y, ty, pos, af, none⟩ :: rest) Q r w := by
  subst hL; subst ha; subst ho
  obtain ⟨g1, k1, k3, _⟩ := hS.look hi
  rcases k1 with ⟨q, _⟩ | ⟨b', cur, cells, q1, q2, q3, q4, q5, q6, q7⟩
  · cases q
  · injection q1 with q1; injection q1 with q1
    subst q1
    have hb : w.heap[b]? = some (.cells cur.toList.toArray e (0, 0)) := by rw [Array.toArray_toList]; exact k3 _ _ (by rw [q2 b, if_pos rfl])
    have hb' : w.heap[b]? = some (.cells cur e (0, 0)) := k3 _ _ (by rw [q2 b, if_pos rfl])
    have hl := R.len _ _ _ hrel
    have hcl : cells.length = xs.length * R.n := q6.length
    have hfit : m * R.n + vs.length ≤ cells.length := by rw [hl, hcl, ← Nat.succ_mul]; exact Nat.mul_le_mul_right _ hm
    have hcur : cells.length ≤ cur.toList.length := by rw [← q7, List.length_take]; exact Nat.min_le_right _ _
    refine WL.none (R_store hx hy hb (hs w) hv hl (by have := R.one _ _ _ hrel; simpa using this) (by omega)) (kk _ ?_)
    refine hS.act hi fun g2 hg2 hin _ => ?_
    have hg2' : g2 b = some (.cells cur e (0, 0)) := by
      rcases hg2 with ⟨q, _⟩ | ⟨b', cur', cells', p1, p2, _⟩
      · cases q
      · injection p1 with p1; injection p1 with p1
        subst p1
        have := hin b _ (by rw [p2 b, if_pos rfl])
        rw [hb'] at this
        rw [p2 b, if_pos rfl]; exact this.symm
    refine ⟨single b (.cells (putl cur.toList (m * R.n) vs).toArray e (0, 0)), ?_, ?_, ?_, ?_⟩
    · refine .inr ⟨b, _, putl cells (m * R.n) vs, rfl, fun _ => rfl, by rw [List.length_set]; exact q3, q4, ?_, (q6.mono hle).set hm hrel, ?_⟩
      · rw [List.size_toArray, putl_length (by omega), Array.length_toList]; exact q5
      · rw [putl_length hfit]; exact putl_take q7 hfit
    · intro c o hc
      unfold single at hc; split at hc
      · rename_i e1; subst e1; rw [setRow_heap w c _ _ _ _ hb']; exact hc
      · cases hc
    · intro c o hc
      unfold single at hc; split at hc
      · rename_i e1; subst e1; exact .inl ⟨_, hg2'⟩
      · cases hc
    · have := setRow_stp w b (putl cur.toList (m * R.n) vs).toArray
      refine ⟨this.os, this.tape, this.output, this.size, fun c hc hn => this.old c hc fun e1 => hn ?_⟩
      subst e1; exact ⟨_, hg2'⟩
end
end Go.Eng
namespace Go.Eng
open Go
theorem R_makeFunc {P : Program} {ρ : Operand → Value} {w : World} {d : Option Nat} {ty : TypeId} {pos : String} {af : Array Edge} {g : Option (Nat × Bool)} {fn : Fn} {xs ys : List Operand} {v : Value} (hv : Value.func fn (xs.map ρ).toArray (ys.map ρ).toArray = v) :
    (execOp ρ ⟨d, .makeFunc fn xs.toArray ys.toArray, ty, pos, af, g⟩).run P w = .ok (.value v) w := by
  subst hv; simp [execOp, Instr.makeFunc]
end Go.Eng
namespace Go.Eng
open Go
theorem WC.cutS {P : Program} {n : Nat} {ds : List Deferred} {x : Code} {Q : Qr} {r : Nat → Value} {w : World} {K : (Nat → Value) → World → Prop} {σ : Type} (L : σ → List (Nat × Value)) (I : σ → World → Prop)
    (h : WC P n ds x (qthen (fun r w => ∃ s, Sat r (L s) ∧ I s w) Q) r w) (hy : ∀ s r w, I s w → K (over (L s) r) w) : WC P n ds x (qthen K Q) r w :=
  h.mono fun e r w he => by
    cases e with
    | normal =>
      obtain ⟨s, h1, h2⟩ := he
      have := hy s r w h2
      rw [over_of_sat h1] at this
      exact this
    | _ => exact he
end Go.Eng
