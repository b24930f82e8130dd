/- A part of the proof engine: rules for steps of the machine over frames and memory. Each under the conditions that its own statement names. -/
import Derived.Test.YtcnhcckbdmjdiaaGreatDoorEng16
import Derived.Recover
import Derived.RangeFuncRecord
import Derived.DefersIn
import Derived.Lib.LazyBuf
set_option linter.all false
set_option linter.unusedSimpArgs false
set_option linter.unusedVariables false
namespace Go.Eng
open Go
/-! ### contracts that keep the committed memory, and turn chunks -/
def MutH (G : World → Prop) (P : Program) (f : FuncId) (pre : Hp → Prop) (args : List Value) (A : Hp → List HProp) (post : Hp → List HProp → Value → Prop) : Prop :=
  ∀ (Γ : Ctx G) h L w, pre h → St Γ h (A h ++ L) w → Ret P f args.toArray w fun v w' => ∃ A', post h A' v ∧ St Γ h (A' ++ L) w'
/-- such that may panic -/
def MutX (G : World → Prop) (P : Program) (f : FuncId) (pre : Hp → Prop) (args : List Value) (A : Hp → List HProp) (post : Hp → List HProp → Value → Prop) (ppost : Hp → List HProp → List PanicEntry → Prop) : Prop :=
  ∀ (Γ : Ctx G) h L w, pre h → St Γ h (A h ++ L) w → RetX P f args.toArray w (fun v w' => ∃ A', post h A' v ∧ St Γ h (A' ++ L) w') (fun c w' => ∃ A', ppost h A' c ∧ St Γ h (A' ++ L) w')
section
variable {G : World → Prop} {Γ : Ctx G} {h : Hp} {L : List HProp} {P : Program} {n : Nat} {ds : List Deferred} {all rest : List Oper} {Q : Qr} {r : Nat → Value} {w : World}
  {ty : TypeId} {pos : String} {af : Array Edge}
theorem MutH.toL {f pre args A post} (hp : MutH G P f pre args A post) : MutL G P f pre args A post := fun Γ h L w h1 h2 =>
  (hp Γ h L w h1 h2).mono fun _ _ ⟨A', k1, k2⟩ => ⟨h, A', Hp.le_refl h, k1, k2⟩
theorem S_callH {f : FuncId} {xs : List Operand} {tys : Array TypeId} {vs : List Value} {A : Hp → List HProp} {post} {dd : Option Nat} (hS : St Γ h (A h ++ L) w) (hc : ∀ args w, (callFunc f args).run P w = .ok (.enter f args) w) (hv : xs.map (ev r) = vs) {pre} (hp : MutH G P f pre vs A post) (hpre : pre h)
    (k : ∀ A' v w', post h A' v → St Γ h (A' ++ L) w' → WL P n ds all rest Q (putd n r dd v) w') :
    WL P n ds all (⟨dd, .call ⟨.value (.func f), xs.toArray, tys⟩, ty, pos, af, none⟩ :: rest) Q r w :=
  S_call hc hv ((hp Γ h L w hpre hS).mono fun v' w' ⟨A', b, c⟩ => k A' v' w' b c)
theorem S_callX {f : FuncId} {xs : List Operand} {tys : Array TypeId} {vs : List Value} {A : Hp → List HProp} {post ppost} {dd : Option Nat} (hS : St Γ h (A h ++ L) w) (hc : ∀ args w, (callFunc f args).run P w = .ok (.enter f args) w) (hv : xs.map (ev r) = vs) {pre} (hp : MutX G P f pre vs A post ppost) (hpre : pre h)
    (kp : ∀ A' c w', ppost h A' c → St Γ h (A' ++ L) w' → Q (.panic c) r w')
    (k : ∀ A' v w', post h A' v → St Γ h (A' ++ L) w' → WL P n ds all rest Q (putd n r dd v) w') :
    WL P n ds all (⟨dd, .call ⟨.value (.func f), xs.toArray, tys⟩, ty, pos, af, none⟩ :: rest) Q r w := by
  refine WL.enterX (R_call (vs := vs) hc hv rfl) ?_
  exact Calls.mono (hp Γ h L w hpre hS) fun e w' he => by
    cases e with
    | returned v => obtain ⟨A', b, c⟩ := he; exact k A' v w' b c
    | panicked c => obtain ⟨A', b, d⟩ := he; exact kp A' c w' b d
    | outgrown => exact he.elim
/-- a call of a value with a receiver bound, or what it caught -/
theorem S_callvH {f : FuncId} {fo : Operand} {xs : List Operand} {tys : Array TypeId} {vs fst cap : List Value} {A : Hp → List HProp} {post} {dd : Option Nat} (hf : ev r fo = .func (.func f) fst.toArray cap.toArray) (hS : St Γ h (A h ++ L) w) (hc : ∀ args w, (callFunc f args).run P w = .ok (.enter f args) w) (hv : xs.map (ev r) = vs) {pre} (hp : MutH G P f pre (fst ++ vs ++ cap) A post) (hpre : pre h)
    (k : ∀ A' v w', post h A' v → St Γ h (A' ++ L) w' → WL P n ds all rest Q (putd n r dd v) w') :
    WL P n ds all (⟨dd, .call ⟨.value fo, xs.toArray, tys⟩, ty, pos, af, none⟩ :: rest) Q r w := by
  refine WL.enter (f := f) (args := (fst ++ vs ++ cap).toArray) (w' := w) ?_ ((hp Γ h L w hpre hS).mono fun v' w' ⟨A', b, c⟩ => k A' v' w' b c)
  subst hv
  simp [execOp, resolve, Deferred.ofValue, invoke, hf, hc]
end
/-! ### slices lent -/
section
variable {G : World → Prop} {Γ : Ctx G} {h : Hp} {L : List HProp} {w : World} {α : Type} {R : Rp α} {e : TypeId} {xs : List α} {a : Option Addr} {c : Nat}
/-- a chunk is lent: behind it, whatever the other chunks, it is given back -/
theorem St.lend2 {i : Nat} {A : HProp} (hS : St Γ h L w) (hi : L[i]? = some A) : ∃ g1 h', A g1 ∧ h.le h' ∧ (∀ b o, g1 b = some o → h' b = some o) ∧ St Γ h' (L.set i emp) w ∧
    ∀ L' j w', L'[j]? = some emp → St Γ h' L' w' → St Γ h (L'.set j A) w' := by
  obtain ⟨g, h1, h2, h3, h4⟩ := hS.ex
  obtain ⟨g1, g2, j1, j2, j3, j4⟩ := Sats.split hi h1
  have hg1 : ∀ b o, g1 b = some o → g b = some o := fun b o hb => by rw [j3, hb]; rfl
  have hh1 : ∀ b o, g1 b = some o → h b = none := fun b o hb => by
    rcases h3 b with h | h
    · exact h
    · rw [hg1 b o hb] at h; cases h
  have hg2 : ∀ b o, g2 b = some o → g b = some o := fun b o hb => by
    rw [j3]; rcases j2 b with h | h
    · rw [h, hb]; rfl
    · rw [h] at hb; cases hb
  have hle : h.le (fun b => (h b).or (g1 b)) := fun b o hb => by simp [hb]
  refine ⟨g1, fun b => (h b).or (g1 b), j1, hle, fun b o hb => by simp [hh1 b o hb, hb], ?_, fun L' j w' hj hS' => ?_⟩
  · refine ⟨hS.keep, fun b o hb => ?_, _, j4 emp (fun _ => none) (fun _ => rfl) (fun _ => .inl rfl), fun b o hb => h2 b o (hg2 b o (by simpa using hb)), fun b => ?_, fun b o hb => h4 b o (hg2 b o (by simpa using hb))⟩
    · cases hg : h b with
      | none => rw [hg] at hb; exact h2 b o (hg1 b o (by simpa using hb))
      | some o1 => rw [hg] at hb; simp at hb; subst hb; exact hS.hin b o1 hg
    · cases hb : g2 b with
      | none => right; simp [hb]
      | some o =>
        left
        have e1 : h b = none := by
          rcases h3 b with h' | h'
          · exact h'
          · rw [hg2 b o hb] at h'; cases h'
        have e2 : g1 b = none := by
          rcases j2 b with h' | h'
          · exact h'
          · rw [hb] at h'; cases h'
        simp [e1, e2]
  · obtain ⟨f, f1, f2, f3, f4⟩ := hS'.ex
    obtain ⟨e1, e2, m1, m2, m3, m4⟩ := Sats.split hj f1
    have he2 : ∀ b, f b = e2 b := fun b => by rw [m3 b, m1 b]; rfl
    have hd : Disj g1 e2 := fun b => by
      cases hb : g1 b with
      | none => exact .inl rfl
      | some o =>
        right
        rcases f3 b with h' | h'
        · simp [hh1 b o hb, hb] at h'
        · rw [← he2]; exact h'
    have hs := m4 A g1 j1 hd
    refine ⟨hS'.keep, fun b o hb => hS'.hin b o (hle b o hb), _, hs, fun b o hb => ?_, fun b => ?_, fun b o hb => ?_⟩
    · cases hg : g1 b with
      | none => simp only [hg, Option.none_or] at hb; exact f2 b o (by rw [he2]; exact hb)
      | some o1 => simp only [hg, Option.some_or, Option.some.injEq] at hb; subst hb; exact hS'.hin b o1 (by simp [hh1 b o1 hg, hg])
    · cases hb : h b with
      | none => exact .inl rfl
      | some o =>
        right
        have k1 : g1 b = none := by
          cases hg : g1 b with
          | none => rfl
          | some o1 => rw [hh1 b o1 hg] at hb; cases hb
        have k2 : e2 b = none := by
          rcases f3 b with h' | h'
          · simp [hb] at h'
          · rw [← he2]; exact h'
        simp [k1, k2]
    · cases hg : g1 b with
      | none => simp only [hg, Option.none_or] at hb; exact f4 b o (by rw [he2]; exact hb)
      | some o1 => exact h4 b o1 (hg1 b o1 hg)
/-- a slice of one's own is lent -/
theorem St.lendG {i : Nat} {h0 : Hp} (hS : St Γ h L w) (hi : L[i]? = some (grow e R h0 xs a c)) (l : h0.le h) : ∃ h', h.le h' ∧ Sl R h' xs a c ∧ St Γ h' (L.set i emp) w ∧
    ∀ L' j w', L'[j]? = some emp → St Γ h' L' w' → St Γ h (L'.set j (grow e R h0 xs a c)) w' := by
  obtain ⟨g1, h', k1, k2, k3, k4, k5⟩ := hS.lend2 hi
  refine ⟨h', k2, ?_, k4, k5⟩
  rcases k1 with ⟨_, h2, h3, _⟩ | ⟨b, cur, cells, h1, h2, h3, h4, h5, h6, h7⟩
  · subst h3; exact Sl.nil _ _ _ _
  · subst h1
    have hb : h' b = some (.cells cur e (0, 0)) := k3 _ _ (by rw [h2 b, if_pos rfl])
    exact Sl.of_flat (h6.mono (l.trans k2)) hb (by simpa using h7) c h3
/-- its relation does not speak of the memory -/
def Rp.Free {α : Type} (R : Rp α) : Prop := ∀ h h' z cs, R.rel h z cs → R.rel h' z cs
theorem Flat.free (hR : R.Free) {h h' : Hp} : ∀ {xs cells}, Flat R h xs cells → Flat R h' xs cells
  | [], _, f => f
  | _ :: _, _, ⟨cs, rest, h1, h2, h3⟩ => ⟨cs, rest, h1, hR _ _ _ _ h2, h3.free hR⟩
theorem St.growFree {i : Nat} {h0 : Hp} (h1 : Hp) (hR : R.Free) (hS : St Γ h L w) (hi : L[i]? = some (grow e R h0 xs a c)) : St Γ h (L.set i (grow e R h1 xs a c)) w :=
  hS.conv hi fun _ hg => by
    rcases hg with hg | ⟨b, cur, cells, h1, h2, h3, h4, h5, h6, h7⟩
    · exact .inl hg
    · exact .inr ⟨b, cur, cells, h1, h2, h3, h4, h5, h6.free hR, h7⟩
theorem Sl.none_nil {xs : List α} {c : Nat} (s : Sl R h xs none c) : xs = [] := by
  cases xs with
  | nil => rfl
  | cons x xs => obtain ⟨_, _, _, h1, _⟩ := s.2 0 x rfl; cases h1
/-- an element of a slice of one's own -/
theorem St.growAt {i m : Nat} {h0 : Hp} {z : α} (hS : St Γ h L w) (hi : L[i]? = some (grow e R h0 xs a c)) (hz : xs[m]? = some z) :
    ∃ b cur cs, a = some ⟨b, 0, none⟩ ∧ R.rel h0 z cs ∧ w.heap[b]? = some (.cells cur e (0, 0)) ∧ ∀ j v, cs[j]? = some v → cur[0 + m * R.n + j]? = some v := by
  obtain ⟨g1, k1, k2, _⟩ := hS.look hi
  rcases k1 with ⟨_, _, h3, _⟩ | ⟨b, cur, cells, h1, h2, h3, h4, h5, h6, h7⟩
  · subst h3; simp at hz
  · obtain ⟨cs, q1, q2⟩ := h6.at m z hz
    refine ⟨b, cur, cs, h1, q1, k2 _ _ (by rw [h2 b, if_pos rfl]), fun j v hj => ?_⟩
    have hlen := R.len _ _ _ q1
    have hj' : j < cs.length := by
      rcases Nat.lt_or_ge j cs.length with hh | hh
      · exact hh
      · rw [List.getElem?_eq_none hh] at hj; cases hj
    have hm : m < xs.length := by
      rcases Nat.lt_or_ge m xs.length with hh | hh
      · exact hh
      · rw [List.getElem?_eq_none hh] at hz; cases hz
    have hcl := h6.length
    have hb : (m + 1) * R.n ≤ xs.length * R.n := Nat.mul_le_mul_right _ hm
    rw [Nat.succ_mul] at hb
    rw [← q2, List.getElem?_take, if_pos (by omega), List.getElem?_drop, ← h7, List.getElem?_take] at hj
    split at hj
    · rw [Nat.zero_add, ← Array.getElem?_toList]; exact hj
    · cases hj
end
section
variable {G : World → Prop} {Γ : Ctx G} {h : Hp} {L : List HProp} {w : World}
theorem St.back2 {i : Nat} {A' : HProp} (hS : St Γ h (A' :: L) w) (hi : L[i]? = some emp) : St Γ h (L.set i A') w := by
  refine St.back (L := L) (A := emp) ?_ hi
  have : L.set i emp = L := by
    apply List.ext_getElem?
    intro j
    rw [List.getElem?_set]
    split
    · rename_i e1; subst e1
      split
      · exact hi.symm
      · rename_i h2; rw [List.getElem?_eq_none (by omega)] at hi; cases hi
    · rfl
  rw [this]; exact hS
end
/-! ### operations -/
section
variable {P : Program} {ρ : Operand → Value} {w : World} {d : Option Nat} {ty : TypeId} {pos : String} {af : Array Edge} {g : Option (Nat × Bool)} {x y : Operand} {t yt e : TypeId}
/-- the address of an array's element -/
theorem R_indexArr {b o len size : Nat} {k : IntKind} {i : Int} {m : Nat} (hx : ρ x = .pointer (some ⟨b, o, none⟩)) (hy : ρ y = .int k i) (ht : P.underlying t = some (.array len e)) (hs : (sizeOf e).run P w = .ok size w) (hi : i = m) (hm : m < len) :
    (execOp ρ ⟨d, .indexAddr t x y, ty, pos, af, g⟩).run P w = .ok (.value (.pointer (some ⟨b, o + m * size, none⟩))) w := by
  subst hi
  simp [execOp, Instr.indexAt, hx, hy, asIntOf, run_underlying ht, hs, add_lit, hm, Instr.sureAddr]
theorem eqI_pn (q : Nat) {a : Addr} (ht : P.underlying t = some (.pointer e)) : (Op.equalIn (q + 1) t (.pointer (some a)) (.pointer none)).run P w = .ok false w := by
  simp [Op.equalIn, run_underlying ht]
theorem eqI_nn (q : Nat) (ht : P.underlying t = some (.pointer e)) : (Op.equalIn (q + 1) t (.pointer none) (.pointer none)).run P w = .ok true w := by
  simp [Op.equalIn, run_underlying ht]
theorem eqI_sl (q : Nat) {a : Option Addr} {n c : Nat} (ht : P.underlying t = some (.slice e)) : (Op.equalIn (q + 1) t (.slice a n c) (.slice none 0 0)).run P w = .ok a.isNone w := by
  cases a <;> simp [Op.equalIn, run_underlying ht]
theorem R_ptrEql {a : Addr} (hx : ρ x = .pointer (some a)) (hy : ρ y = .pointer none) (ht : P.underlying t = some (.pointer e)) :
    (execOp ρ ⟨d, .binOp .eql t x y yt, ty, pos, af, g⟩).run P w = .ok (.value (.bool false)) w := by
  have this := eqI_pn (P := P) (w := w) 9999 (a := a) ht
  simp [execOp, hx, hy, eqGuard, binOp, Op.equal, Op.maxDepth, this]
theorem R_ptrNeq {a : Addr} (hx : ρ x = .pointer (some a)) (hy : ρ y = .pointer none) (ht : P.underlying t = some (.pointer e)) :
    (execOp ρ ⟨d, .binOp .neq t x y yt, ty, pos, af, g⟩).run P w = .ok (.value (.bool true)) w := by
  have this := eqI_pn (P := P) (w := w) 9999 (a := a) ht
  simp [execOp, hx, hy, eqGuard, binOp, Op.equal, Op.maxDepth, this]
theorem R_nilEql (hx : ρ x = .pointer none) (hy : ρ y = .pointer none) (ht : P.underlying t = some (.pointer e)) :
    (execOp ρ ⟨d, .binOp .eql t x y yt, ty, pos, af, g⟩).run P w = .ok (.value (.bool true)) w := by
  have this := eqI_nn (P := P) (w := w) 9999 ht
  simp [execOp, hx, hy, eqGuard, binOp, Op.equal, Op.maxDepth, this]
theorem R_nilNeq (hx : ρ x = .pointer none) (hy : ρ y = .pointer none) (ht : P.underlying t = some (.pointer e)) :
    (execOp ρ ⟨d, .binOp .neq t x y yt, ty, pos, af, g⟩).run P w = .ok (.value (.bool false)) w := by
  have this := eqI_nn (P := P) (w := w) 9999 ht
  simp [execOp, hx, hy, eqGuard, binOp, Op.equal, Op.maxDepth, this]
theorem R_slEqlNil {a : Option Addr} {n c : Nat} (hx : ρ x = .slice a n c) (hy : ρ y = .slice none 0 0) (ht : P.underlying t = some (.slice e)) :
    (execOp ρ ⟨d, .binOp .eql t x y yt, ty, pos, af, g⟩).run P w = .ok (.value (.bool a.isNone)) w := by
  have this := eqI_sl (P := P) (w := w) 9999 (a := a) (n := n) (c := c) ht
  simp [execOp, hx, hy, eqGuard, binOp, Op.equal, Op.maxDepth, this]
/-- the low bits of a number -/
theorem R_andMask {a : Int} {m : Nat} (hx : ρ x = .int .i64 a) (hy : ρ y = .int .i64 m) (hm : m < 9223372036854775808) :
    ∃ v : Nat, v ≤ m ∧ ∀ w, (execOp ρ ⟨d, .binOp .and t x y yt, ty, pos, af, g⟩).run P w = .ok (.value (.int .i64 v)) w := by
  have hb : (BitVec.ofInt 64 (m : Int)).toNat = m := by
    rw [BitVec.toNat_ofInt]; omega
  have hv : (BitVec.ofInt 64 a &&& BitVec.ofInt 64 (m : Int)).toNat ≤ m := by
    rw [BitVec.toNat_and, hb]; exact Nat.and_le_right
  refine ⟨(BitVec.ofInt 64 a &&& BitVec.ofInt 64 (m : Int)).toNat, hv, fun w => ?_⟩
  have hw : IntKind.i64.wrap ((BitVec.ofInt 64 a &&& BitVec.ofInt 64 (m : Int)).toNat : Int) = ((BitVec.ofInt 64 a &&& BitVec.ofInt 64 (m : Int)).toNat : Int) := wrap_i64_in (by omega)
  have hi : Op.intBits .and .i64 a m = pure (.int .i64 ((BitVec.ofInt 64 a &&& BitVec.ofInt 64 (m : Int)).toNat : Int)) := by
    rw [← hw]; rfl
  simp [execOp, hx, hy, eqGuard, binOp, hi]
end
section
variable {G : World → Prop} {Γ : Ctx G} {h : Hp} {L : List HProp} {P : Program} {n : Nat} {ds : List Deferred} {all rest : List Oper} {Q : Qr} {r : Nat → Value} {w : World}
  {d : Option Nat} {ty : TypeId} {pos : String} {af : Array Edge} {x : Operand}
theorem S_panic {t : TypeId} {v : Value} (hx : ev r x = .iface t v) (k : Q (.panic [{ v := .iface t v, recovered := false }]) r w) : WL P n ds all (⟨d, .panic x, ty, pos, af, none⟩ :: rest) Q r w := by
  intro a ha
  refine wpList_plain rfl fun K hK => ?_
  unfold Oper.wp
  rw [ha.eval]
  have : (execOp (ev r) ⟨d, .panic x, ty, pos, af, none⟩).run P w = .halt (.panic (.iface t v)) w := by
    simp [execOp, hx, Instr.panic, goPanic]
  rw [this]
  exact ⟨r, ha, k⟩
end
/-! ### bodies whose deferred calls grow on the way -/
def WCX (P : Program) (n : Nat) (ds : List Deferred) (c : Code) (Q : List Deferred → Qr) (r : Nat → Value) (w : World) : Prop :=
  ∀ a, Fits n ds r a → c.wp P (fun e a' w' => ∃ ds' r', Fits n ds' r' a' ∧ Q ds' e r' w') a w
section
variable {P : Program} {n : Nat} {ds : List Deferred} {Q : List Deferred → Qr} {r : Nat → Value} {w : World}
theorem WCX.of {c} (h : WC P n ds c (Q ds) r w) : WCX P n ds c Q r w := fun a ha => Code.wp_mono (fun _ _ _ ⟨r', h1, h2⟩ => ⟨ds, r', h1, h2⟩) (h a ha)
theorem WCX.seq {x y} (h : WCX P n ds x (fun ds' => qthen (fun r w => WCX P n ds' y Q r w) (Q ds')) r w) : WCX P n ds (.seq x y) Q r w := by
  intro a ha
  refine wp_seq (Code.wp_mono (fun e a w he => ?_) (h a ha))
  obtain ⟨ds', r', h1, h2⟩ := he
  cases e with
  | normal => exact h2 a h1
  | _ => exact ⟨ds', r', h1, h2⟩
theorem WCX.block {id c} (h : WCX P n ds c (fun ds' => qblock id (Q ds')) r w) : WCX P n ds (.block id c) Q r w := by
  intro a ha
  refine wp_block (Code.wp_mono (fun e a w he => ?_) (h a ha))
  obtain ⟨ds', r', h1, h2⟩ := he
  cases e with
  | exit id' =>
    simp only [qblock, Exit.inBlock] at h2 ⊢
    split
    · rename_i hh; rw [if_pos hh] at h2; exact ⟨ds', r', h1, h2⟩
    · rename_i hh; rw [if_neg hh] at h2; exact ⟨ds', r', h1, h2⟩
  | _ => exact ⟨ds', r', h1, h2⟩
/-- 'defer f()' of a function value made just ahead -/
theorem WCX.defer {id : Nat} {d1 : Nat} {d2 : Option Nat} {op1 : Op} {c : Call} {ty1 ty2 pos1 pos2 af1 af2} {v1 : Value} {dd : Deferred}
    (h1 : (execOp (ev r) ⟨some d1, op1, ty1, pos1, af1, none⟩).run P w = .ok (.value v1) w)
    (h2 : (execOp (ev (upd n r d1 v1)) ⟨d2, .defer c, ty2, pos2, af2, none⟩).run P w = .ok (.defer dd) w)
    (k : Q (dd :: ds) .normal (putd n (upd n r d1 v1) d2 undef) w) :
    WCX P n ds (.region id [⟨some d1, op1, ty1, pos1, af1, none⟩, ⟨d2, .defer c, ty2, pos2, af2, none⟩].toArray false) Q r w := by
  intro a ha
  refine wp_region_lit ?_
  refine wpList_plain rfl fun K hK => ?_
  unfold Oper.wp
  rw [ha.eval, h1]
  refine hK _ _ ?_
  refine wpList_plain rfl fun K2 hK2 => ?_
  unfold Oper.wp
  have ha2 := ha.put d1 v1
  rw [ha2.eval, h2]
  refine hK2 _ _ ?_
  refine wpList_nil ⟨dd :: ds, _, ?_, k⟩
  have h3 : Fits n (dd :: ds) (upd n r d1 v1) { a.put (some d1) v1 with defers := dd :: (a.put (some d1) v1).defers } := ⟨ha2.size, ha2.get, by rw [ha2.defers]⟩
  exact h3.putd d2 undef
end
theorem R_defer {P : Program} {ρ : Operand → Value} {w : World} {d : Option Nat} {ty : TypeId} {pos : String} {af : Array Edge} {g : Option (Nat × Bool)} {fo : Operand} {tys : Array TypeId} {fv : Fn} {cap : Array Value} (hf : ρ fo = .func fv #[] cap) :
    (execOp ρ ⟨d, .defer ⟨.value fo, #[], tys⟩, ty, pos, af, g⟩).run P w = .ok (.defer ⟨.fn fv cap, #[]⟩) w := by
  simp [execOp, resolve, Deferred.ofValue, hf]
/-- what the ends of such a body must bring -/
def qtopL (n : Nat) (Lv : Array Value → List Deferred → FrameMode → World → Prop) (ds : List Deferred) : Qr
  | .normal, r, w => ∀ a, Fits n ds r a → Lv a.tmps ds .returning w
  | .ret, r, w => ∀ a, Fits n ds r a → Lv a.tmps ds .returning w
  | .panic c, r, w => ∀ a, Fits n ds r a → Lv a.tmps ds (.panicking c) w
  | _, _, _ => False
/-- an end with a value -/
def endV (post : Value → World → Prop) (e : Ending) (w : World) : Prop := ∃ v, e = .returned v ∧ post v w
abbrev LvD (P : Program) (fn : Func) (post : Value → World → Prop) : Array Value → List Deferred → FrameMode → World → Prop := fun tmps ds u w => Leaves P fn tmps (endV post) ds u w
abbrev LvM (P : Program) (fn : Func) (post : Value → World → Prop) : Array Value → List Deferred → FrameMode → World → Prop := fun tmps ds u w => LeavesInM Fence.wide 0 P fn tmps (endV post) ds u w
theorem fits_enter {fn : Func} {args : List Value} (hn : args.length ≤ fn.ntmps) : Fits fn.ntmps [] (nth args) { tmps := args.toArray ++ Array.replicate (fn.ntmps - args.toArray.size) undef, defers := [] } := by
  refine ⟨by simp; omega, fun i => ?_, rfl⟩
  rw [nth_eq]
  simp only [Array.getD_eq_getD_getElem?, List.getD_eq_getElem?_getD, Array.getElem?_append]
  split
  · simp
  · rename_i hi
    rw [List.getElem?_eq_none (by simpa using hi), Array.getElem?_replicate]
    split <;> rfl
theorem Ret.bodyD {P f fn c args w post n} (hf : P.funcs[f]? = some fn) (hb : fn.body = some c) (hm : fn.ntmps = n) (hn : args.length ≤ n)
    (h : WCX P n [] c (qtopL n (LvD P fn post)) (nth args) w) : Ret P f args.toArray w post := by
  subst hm
  refine calls_of_wp_defers hf hb ?_
  refine Code.wp_mono (fun e a w he => ?_) (h _ (fits_enter hn))
  obtain ⟨ds', r, h1, h2⟩ := he
  cases e with
  | normal => have := h2 a h1; rw [← h1.defers] at this; exact this
  | ret => have := h2 a h1; rw [← h1.defers] at this; exact this
  | panic c => have := h2 a h1; rw [← h1.defers] at this; exact this
  | exit _ => exact h2.elim
  | goto _ => exact h2.elim
  | outgrown => exact h2.elim
theorem Ret.bodyM {P f fn c args w post n} (hf : P.funcs[f]? = some fn) (hb : fn.body = some c) (hm : fn.ntmps = n) (hn : args.length ≤ n)
    (h : WCX P n [] c (qtopL n (LvM P fn post)) (nth args) w) : Ret P f args.toArray w post := by
  subst hm
  refine callsIn_wide.1 (callsIn_of_wp_marks (F := Fence.wide) (n := 0) hf hb trivial (wpIn_wide.2 ?_))
  refine Code.wp_mono (fun e a w he => ?_) (h _ (fits_enter hn))
  obtain ⟨ds', r, h1, h2⟩ := he
  cases e with
  | normal => have := h2 a h1; rw [← h1.defers] at this; exact this
  | ret => have := h2 a h1; rw [← h1.defers] at this; exact this
  | panic c => have := h2 a h1; rw [← h1.defers] at this; exact this
  | exit _ => exact h2.elim
  | goto _ => exact h2.elim
  | outgrown => exact h2.elim
section
variable {P : Program} {fn : Func} {n : Nat} {ds : List Deferred} {post : Value → World → Prop} {r : Nat → Value} {w : World}
theorem topD_ret (v : Value) (hg : Gives P fn n [] r w v) (h : post v w) : qtopL n (LvD P fn post) [] .ret r w := fun a ha => ⟨v, hg a ha, v, rfl, h⟩
theorem topM_ret (v : Value) (hg : Gives P fn n [] r w v) (h : post v w) : qtopL n (LvM P fn post) [] .ret r w := fun a ha => ⟨v, hg a ha, v, rfl, h⟩
/-- one mark of a loop over a function -/
theorem topM_mark {G : World → Prop} {Γ : Ctx G} {hp : Hp} {L : List HProp} {db i : Nat} (hS : St Γ hp L w) (hi : L[i]? = some (blk db (.deferred (some []))))
    (k : ∀ w', St Γ hp (L.set i (blk db (.deferred none))) w' → ∃ v, Gives P fn n [⟨.collected db, #[]⟩] r w' v ∧ post v w') :
    qtopL n (LvM P fn post) [⟨.collected db, #[]⟩] .ret r w := by
  intro a ha
  have hb := hS.has hi
  have hS' : St Γ hp (L.set i (blk db (.deferred none))) (w.putObj db (.deferred none)) := by
    refine hS.act hi fun g1 q1 hin _ => ⟨single db (.deferred none), fun _ => rfl, ?_, ?_, ?_⟩
    · intro c o hc
      unfold single at hc
      split at hc
      · rename_i e1; subst e1; injection hc with hc; subst hc; exact World.putObj_heap_same ((Array.getElem?_eq_some_iff.1 hb).1)
      · cases hc
    · intro c o hc
      unfold single at hc
      split at hc
      · rename_i e1; subst e1; exact .inl ⟨_, by rw [q1 c, if_pos rfl]⟩
      · cases hc
    · refine ⟨rfl, rfl, rfl, by simp, fun c hc hn => World.putObj_heap_other fun e1 => hn ?_⟩
      subst e1; exact ⟨_, by rw [q1 c, if_pos rfl]⟩
  obtain ⟨v, hg, hv⟩ := k _ hS'
  exact ⟨by simp, .inl ⟨db, _, rfl, run_takeDeferred hb, v, hg a ha, v, rfl, hv⟩⟩
/-- one deferred call of a function, that lets the frame return -/
theorem topD_one {fv : Fn} {cap : Array Value} {f : FuncId} {args : Array Value} {u : FrameMode} {e : Exit} {K : World → Prop} (he : (e = .ret ∨ e = .normal) ∧ u = .returning ∨ ∃ c, e = .panic c ∧ u = .panicking c)
    (hi : ∀ w, (invoke (.fn fv cap) #[]).run P w = .ok (.enter f args) w)
    (hcall : CallsD P f args u w fun en u' w' => (∃ v, en = .returned v) ∧ settle u' = .returning ∧ K w')
    (k : ∀ w', K w' → ∃ v, Gives P fn n [⟨.fn fv cap, #[]⟩] r w' v ∧ post v w') : qtopL n (LvD P fn post) [⟨.fn fv cap, #[]⟩] e r w := by
  have main : ∀ a, Fits n [⟨.fn fv cap, #[]⟩] r a → u ≠ .run → Leaves P fn a.tmps (endV post) [⟨.fn fv cap, #[]⟩] u w := fun a ha hu =>
    leaves_cons hu (hi w) (CallsD.mono hcall fun en u' w' ⟨⟨v, h1⟩, h2, h3⟩ => by
      subst h1
      show Leaves P fn a.tmps (endV post) [] (settle u') w'
      rw [h2]
      obtain ⟨v, hg, hv⟩ := k w' h3
      exact ⟨v, hg a ha, v, rfl, hv⟩)
  rcases he with ⟨he, rfl⟩ | ⟨c, rfl, rfl⟩
  · rcases he with rfl | rfl
    · exact fun a ha => main a ha (by simp)
    · exact fun a ha => main a ha (by simp)
  · exact fun a ha => main a ha (by simp)
end
/-- a range over a function that calls its body not once -/
theorem WCX.rangeNone {G : World → Prop} {Γ : Ctx G} {hp : Hp} {L : List HProp} {P : Program} {n : Nat} {ds : List Deferred} {Q : List Deferred → Qr} {r : Nat → Value} {w : World}
    {g : Operand} {ps : Array Tmp} {assign body : Code} {f : FuncId} {cap : List Value} (hS : St Γ hp L w) (hg : ev r g = .func (.func f) #[] cap.toArray) (hc : ∀ args w, (callFunc f args).run P w = .ok (.enter f args) w)
    (hf : ∀ (l : Nat) (B1 B2 : HProp) (w' : World), St Γ hp (B1 :: B2 :: L) w' → Ret P f (Value.func (.yield l) #[] #[] :: cap).toArray w' fun _ w'' => St Γ hp (B1 :: B2 :: L) w'')
    (k : ∀ db o w', St Γ hp (o :: blk db (.deferred (some [])) :: L) w' → Q (⟨.collected db, #[]⟩ :: ds) .normal r w') :
    WCX P n ds (.rangeFunc g ps assign body) Q r w := by
  intro a ha
  refine wpIn_wide.1 (wpIn_rangeFunc (F := Fence.wide) (n := 0) fun fn _ => ?_)
  have hS1 := (hS.alloc (.deferred (some []))).alloc (.loop { state := .ready, pending := none, fn, tmps := a.tmps, params := ps, assign, body, defers := w.heap.size })
  have hsz : (w.alloc (.deferred (some []))).heap.size = w.heap.size + 1 := by simp
  rw [hsz] at hS1
  refine ⟨_, _, _, ⟨.fn (.func f) cap.toArray, #[.func (.yield (w.heap.size + 1)) #[] #[]]⟩, (w.alloc (.deferred (some []))).alloc (.loop { state := .ready, pending := none, fn, tmps := a.tmps, params := ps, assign, body, defers := w.heap.size }), f, (Value.func (.yield (w.heap.size + 1)) #[] #[] :: cap).toArray, (w.alloc (.deferred (some []))).alloc (.loop { state := .ready, pending := none, fn, tmps := a.tmps, params := ps, assign, body, defers := w.heap.size }), run_enterLoop_outer fn a.tmps ps assign body, ?_, fun _ _ => trivial, ?_, (fun hh => by cases hh), ?_⟩
  · have : a.eval g = .func (.func f) #[] cap.toArray := by rw [ha.eval]; exact hg
    simp [resolve, Deferred.ofValue, this]
    rfl
  · simp [invoke, hc]
  · refine callsIn_wide.2 (Calls.mono (hf _ _ _ _ hS1) fun e w3 ⟨v, he, hS3⟩ => ?_)
    subst he
    have hb := hS3.has (i := 0) (b := w.heap.size + 1) rfl
    refine ⟨_, _, run_endLoop hb (by simp), ⟨.collected w.heap.size, #[]⟩ :: ds, r, ⟨ha.size, ha.get, by show _ ++ a.defers = _; rw [ha.defers]; rfl⟩, ?_⟩
    refine k w.heap.size (blk (w.heap.size + 1) (.loop { state := .exhausted, pending := none, fn, tmps := a.tmps, params := ps, assign, body, defers := w.heap.size })) _ ?_
    refine hS3.act (i := 0) (A := blk (w.heap.size + 1) (.loop { state := .ready, pending := none, fn, tmps := a.tmps, params := ps, assign, body, defers := w.heap.size })) rfl fun g1 q1 hin _ => ⟨single (w.heap.size + 1) _, fun _ => rfl, ?_, ?_, ?_⟩
    · intro c o hc
      unfold single at hc
      split at hc
      · rename_i e1; subst e1; injection hc with hc; subst hc; exact World.putObj_heap_same ((Array.getElem?_eq_some_iff.1 hb).1)
      · cases hc
    · intro c o hc
      unfold single at hc
      split at hc
      · rename_i e1; subst e1; exact .inl ⟨_, by rw [q1 _, if_pos rfl]⟩
      · cases hc
    · refine ⟨rfl, rfl, rfl, by simp, fun c hc hn => World.putObj_heap_other fun e1 => hn ?_⟩
      subst e1; exact ⟨_, by rw [q1 _, if_pos rfl]⟩
/-! ### a deferred function that recovers -/
theorem wpOpsS_of_wpList {P : Program} {ops : List Oper} {Q : Exit → Act → List Frame → World → Prop} {Q0 : Exit → Act → World → Prop} {cs : List Frame} (noout : ¬ LetsOut Q0) (hq : ∀ e a w, Q0 e a w → Q e a cs w) :
    ∀ (l : List Oper) (k : Nat), (∀ j, l[j]? = ops[k + j]?) → ∀ a w, wpList P ops.toArray Q0 l a w → wpOpsS P ops.toArray Q (List.range' k l.length) a cs w
  | [], k, _, a, w, h => hq _ _ _ h
  | o :: l, k, hk, a, w, h => by
    have ih := wpOpsS_of_wpList (P := P) noout hq l (k + 1) (fun j => by have := hk (j + 1); simpa [Nat.add_assoc, Nat.add_comm 1 j] using this)
    have ho : ops.toArray[k]? = some o := by have := hk 0; simpa using this.symm
    have hr : List.range' k (o :: l).length = k :: List.range' (k + 1) l.length := by simp [List.range'_succ]
    rw [hr]
    simp only [wpOpsS, ho]
    unfold wpList at h
    split
    · rename_i hw
      rw [if_pos hw] at h
      rcases h with h | ⟨_, h⟩
      · unfold Oper.wp at h
        generalize (execOp a.eval o).run P w = res at h ⊢
        cases res with
        | halt hh w' => cases hh <;> first | exact h.elim | exact hq _ _ _ h
        | ok x w' =>
          cases x with
          | value v => exact ih _ _ h
          | skip => exact ih _ _ h
          | defer d => exact ih _ _ h
          | enter f args =>
            refine Calls.mono h fun e w'' he => ?_
            cases e with
            | returned v => exact ih _ _ he
            | panicked c => exact hq _ _ _ he
            | outgrown => exact absurd he noout
          | row row args => exact Rows.mono h fun v w'' hv => ih _ _ hv
          | recover => exact h.elim
          | _ => exact h.elim
      · exact absurd h noout
    · rename_i hw
      rw [if_neg hw] at h
      exact ih _ _ h
/-- the ends of a deferred function -/
def qfin (P : Program) (fn : Func) (n : Nat) (K : World → Prop) : Qr
  | .normal, r, w => ∃ v, Gives P fn n [] r w v ∧ K w
  | .ret, r, w => ∃ v, Gives P fn n [] r w v ∧ K w
  | _, _, _ => False
theorem callsD_recover {P : Program} {f : FuncId} {fn : Func} {n id d : Nat} {o0 : Oper} {rest : List Oper} {code2 : Code} {args : List Value} {u u' : FrameMode} {vrec : Value} {K : World → Prop} {w : World}
    (hf : P.funcs[f]? = some fn) (hb : fn.body = some (.seq (.region id (o0 :: rest).toArray false) code2)) (hm : fn.ntmps = n) (hn : args.length ≤ n) (hd : o0.dst = some d) (hg : o0.guard = none)
    (h0 : ∀ ρ w, (execOp ρ o0).run P w = .ok .recover w)
    (hrec : ∀ (c0 : Frame) cs, c0.mode = u → match recoverD (c0 :: cs) with | some (v, cs') => v = vrec ∧ cs' = { c0 with mode := u' } :: cs | none => vrec = .nilIface ∧ u' = u)
    (h : WL P n [] (o0 :: rest) rest (qthen (fun r w => WC P n [] code2 (qfin P fn n K) r w) (qfin P fn n K)) (upd n (nth args) d vrec) w) :
    CallsD P f args.toArray u w fun en um wm => (∃ v, en = .returned v) ∧ um = u' ∧ K wm := by
  subst hm
  refine callsD_of_wpS hf hb fun c0 cs hu => wpS_seq (wpS_region ?_)
  have hfit := fits_enter (fn := fn) hn
  have hfit2 := hfit.put d vrec
  have hr : List.range (o0 :: rest).toArray.size = 0 :: List.range' 1 rest.length := by
    rw [List.range_eq_range']; simp [List.range'_succ]
  rw [hr]
  simp only [wpOpsS]
  have ho : (o0 :: rest).toArray[0]? = some o0 := by simp
  rw [ho]
  simp only [Region.wanted, hg, if_true, h0, hd]
  have hrec := hrec c0 cs hu
  have fin : ∀ cs', cs' = { c0 with mode := u' } :: cs → ∀ e (a : Act) w, lift fn.ntmps [] (qfin P fn fn.ntmps K) e a w → bodyPostS P fn c0 cs (fun en um wm => (∃ v, en = .returned v) ∧ um = u' ∧ K wm) e a cs' w := by
    rintro cs' rfl e a w ⟨r, h1, h2⟩
    cases e with
    | normal => obtain ⟨v, hv, hk⟩ := h2; exact ⟨h1.defers, u', rfl, v, hv a h1, ⟨v, rfl⟩, rfl, hk⟩
    | ret => obtain ⟨v, hv, hk⟩ := h2; exact ⟨h1.defers, u', rfl, v, hv a h1, ⟨v, rfl⟩, rfl, hk⟩
    | exit _ => exact h2.elim
    | goto _ => exact h2.elim
    | panic _ => exact h2.elim
    | outgrown => exact h2.elim
  have main : ∀ cs', cs' = { c0 with mode := u' } :: cs → wpOpsS P (o0 :: rest).toArray (Exit.thenS (code2.wpS P (bodyPostS P fn c0 cs (fun en um wm => (∃ v, en = .returned v) ∧ um = u' ∧ K wm))) (bodyPostS P fn c0 cs (fun en um wm => (∃ v, en = .returned v) ∧ um = u' ∧ K wm)))
      (List.range' 1 rest.length) (Act.put { tmps := args.toArray ++ Array.replicate (fn.ntmps - args.toArray.size) undef, defers := [] } (some d) vrec) cs' w := by
    intro cs' hcs
    refine wpOpsS_of_wpList (Q0 := lift fn.ntmps [] (qthen (fun r w => WC P fn.ntmps [] code2 (qfin P fn fn.ntmps K) r w) (qfin P fn fn.ntmps K))) (fun ⟨a, w, r, _, h2⟩ => h2.elim) (fun e a w hq => ?_) rest 1 (fun j => by simp [Nat.add_comm 1 j]) _ _ (h _ hfit2)
    obtain ⟨r, h1, h2⟩ := hq
    cases e with
    | normal => exact wpS_of_wp (Code.wp_mono (fun e a w hq => fin cs' hcs e a w hq) (h2 a h1))
    | ret => exact fin cs' hcs .ret a w ⟨r, h1, h2⟩
    | exit _ => exact h2.elim
    | goto _ => exact h2.elim
    | panic _ => exact h2.elim
    | outgrown => exact h2.elim
  cases hh : recoverD (c0 :: cs) with
  | some x =>
    obtain ⟨v, cs'⟩ := x
    rw [hh] at hrec
    obtain ⟨rfl, hcs⟩ := hrec
    exact main cs' hcs
  | none =>
    rw [hh] at hrec
    obtain ⟨rfl, rfl⟩ := hrec
    refine main _ ?_
    subst hu; rfl
end Go.Eng
namespace Go.Eng
open Go
section
variable {G : World → Prop} {Γ : Ctx G} {h : Hp} {L : List HProp} {w : World}
theorem Sats.append : ∀ {A L : List HProp} {g : Hp}, Sats (A ++ L) g → ∃ g1 g2, Sats A g1 ∧ Sats L g2 ∧ Disj g1 g2 ∧ ∀ b, g b = (g1 b).or (g2 b)
  | [], L, g, h => ⟨fun _ => none, g, fun _ => rfl, h, fun _ => .inl rfl, fun _ => rfl⟩
  | B :: A, L, g, ⟨ga, gb, ha, hb, hd, hu⟩ => by
    obtain ⟨g1, g2, h1, h2, h3, h4⟩ := Sats.append hb
    refine ⟨fun b => (ga b).or (g1 b), g2, ⟨ga, g1, ha, h1, fun b => ?_, fun _ => rfl⟩, h2, fun b => ?_, fun b => ?_⟩
    · rcases hd b with h | h
      · exact .inl h
      · right; rw [h4 b] at h; exact (Option.or_eq_none_iff.1 h).1
    · rcases h3 b with h | h
      · rcases hd b with h' | h'
        · left; simp [h, h']
        · right; rw [h4 b] at h'; exact (Option.or_eq_none_iff.1 h').2
      · exact .inr h
    · rw [hu b, h4 b]; simp [Option.or_assoc]
theorem Sats.join : ∀ {A L : List HProp} {g1 g2 : Hp}, Sats A g1 → Sats L g2 → Disj g1 g2 → Sats (A ++ L) fun b => (g1 b).or (g2 b)
  | [], L, g1, g2, h1, h2, _ => by
    have : (fun b => (g1 b).or (g2 b)) = g2 := funext fun b => by rw [h1 b]; rfl
    rw [this]; exact h2
  | B :: A, L, g1, g2, ⟨ga, gb, ha, hb, hd, hu⟩, h2, hd2 => by
    have d1 : Disj gb g2 := fun b => by
      rcases hd2 b with h | h
      · left; rw [hu b] at h; exact (Option.or_eq_none_iff.1 h).2
      · exact .inr h
    refine ⟨ga, _, ha, Sats.join hb h2 d1, fun b => ?_, fun b => by show (g1 b).or (g2 b) = _; rw [hu b, Option.or_assoc]⟩
    rcases hd b with h | h
    · exact .inl h
    · rcases hd2 b with h' | h'
      · left; rw [hu b] at h'; exact (Option.or_eq_none_iff.1 h').1
      · right; simp [h, h']
/-- some chunks alone, in a frame of their own; behind it the others stand as they stood -/
theorem St.sub {A L0 : List HProp} (hS : St Γ h (A ++ L0) w) : ∃ (Γ' : Ctx G) (g0 : Hp), Γ'.we = w ∧ Sats A g0 ∧ (∀ b, Γ'.M b ↔ ∃ o, g0 b = some o) ∧ (∀ b, Γ'.M b → b < w.heap.size) ∧ In h w ∧ St Γ' h A w ∧
    ∀ A' w', St Γ' h A' w' → St Γ h (A' ++ L0) w' := by
  obtain ⟨g, h1, h2, h3, h4⟩ := hS.ex
  obtain ⟨ga, gl, k1, k2, k3, k4⟩ := Sats.append h1
  have ga_g : ∀ b o, ga b = some o → g b = some o := fun b o hb => by rw [k4, hb]; rfl
  have gl_g : ∀ b o, gl b = some o → g b = some o := fun b o hb => by
    rw [k4]; rcases k3 b with h | h
    · rw [h, hb]; rfl
    · rw [h] at hb; cases hb
  have hr : ∀ u, Kept w (fun b => ∃ o, ga b = some o) u → Kept Γ.we Γ.M u := fun u hk =>
    hS.keep.stp (S := fun b => ∃ o, ga b = some o) ⟨hk.os, hk.tape, hk.output, hk.size, fun b hb hn => hk.old b hb hn⟩ fun b ⟨o, ho⟩ => h4 b o (ga_g b o ho)
  refine ⟨⟨w, fun b => ∃ o, ga b = some o, fun u hk => Γ.stable u (hr u hk)⟩, ga, rfl, k1, fun b => Iff.rfl, fun b ⟨o, ho⟩ => h2.lt (ga_g b o ho), hS.hin, ?_, fun A' w' hS' => ?_⟩
  · refine ⟨⟨rfl, rfl, rfl, Nat.le_refl _, fun _ _ _ => rfl⟩, hS.hin, ga, k1, fun b o hb => h2 b o (ga_g b o hb), fun b => ?_, fun b o hb => .inr ⟨o, hb⟩⟩
    rcases h3 b with h | h
    · exact .inl h
    · right
      cases hb : ga b with
      | none => rfl
      | some o => rw [ga_g b o hb] at h; cases h
  · have hk := hS'.keep
    have hold : ∀ b o, gl b = some o → w'.heap[b]? = some o := fun b o hb => by
      have hlt := h2.lt (gl_g b o hb)
      rw [hk.old b hlt (fun ⟨o', ho'⟩ => by
        rcases k3 b with h | h
        · rw [h] at ho'; cases ho'
        · rw [h] at hb; cases hb)]
      exact h2 b o (gl_g b o hb)
    obtain ⟨f, f1, f2, f3, f4⟩ := hS'.ex
    have hd : Disj f gl := fun b => by
      cases hf : f b with
      | none => exact .inl rfl
      | some o =>
        right
        rcases f4 b o hf with h | ⟨o', ho'⟩
        · cases hg : gl b with
          | none => rfl
          | some o' => exact absurd (h2.lt (gl_g b o' hg)) (Nat.not_lt.2 h)
        · rcases k3 b with h | h
          · rw [h] at ho'; cases ho'
          · exact h
    refine ⟨hr w' hk, hS'.hin, _, Sats.join f1 k2 hd, fun b o hb => ?_, fun b => ?_, fun b o hb => ?_⟩
    · replace hb : (f b).or (gl b) = some o := hb
      cases hf : f b with
      | none => rw [hf] at hb; exact hold b o (by simpa using hb)
      | some o1 => rw [hf] at hb; simp at hb; subst hb; exact f2 b o1 hf
    · cases hb : h b with
      | none => exact .inl rfl
      | some o =>
        right
        have e1 : f b = none := by
          rcases f3 b with h' | h'
          · rw [hb] at h'; cases h'
          · exact h'
        have e2 : gl b = none := by
          rcases h3 b with h' | h'
          · rw [hb] at h'; cases h'
          · cases hg : gl b with
            | none => rfl
            | some o' => rw [gl_g b o' hg] at h'; cases h'
        simp [e1, e2]
    · replace hb : (f b).or (gl b) = some o := hb
      cases hf : f b with
      | none => rw [hf] at hb; exact h4 b o (gl_g b o (by simpa using hb))
      | some o1 =>
        rcases f4 b o1 hf with h | ⟨o', ho'⟩
        · left; exact Nat.le_trans hS.keep.size h
        · exact h4 b o' (ga_g b o' ho')
end
section
variable {P : Program} {n : Nat} {ds : List Deferred} {Q : Qr} {r : Nat → Value} {w : World}
/-- so many rounds, one behind the other -/
def unr (P : Program) (n : Nat) (ds : List Deferred) (c : Code) (Q : Qr) : Nat → (Nat → Value) → World → Prop
  | 0, _, _ => False
  | k + 1, r, w => WC P n ds c (qthen (unr P n ds c Q k) Q) r w
theorem WC.unroll {c} (k : Nat) (h : unr P n ds c Q k r w) : WC P n ds (.loop c) Q r w := by
  refine WC.loop (fun (j : Nat) r w => unr P n ds c Q j r w) (fun j => j) k h fun s r w hs => ?_
  cases s with
  | zero => exact hs.elim
  | succ s =>
    refine WC.mono hs fun e r' w' hq => ?_
    cases e with
    | normal => exact ⟨s, hq, Nat.lt_succ_self _⟩
    | _ => exact hq
theorem unr_succ {c} {k : Nat} (h : WC P n ds c (qthen (unr P n ds c Q k) Q) r w) : unr P n ds c Q (k + 1) r w := h
end
theorem WL_andMask {P : Program} {n : Nat} {ds : List Deferred} {all rest : List Oper} {Q : Qr} {r : Nat → Value} {w : World} {d : Nat} {ty : TypeId} {pos : String} {af : Array Edge} {x y : Operand} {t yt : TypeId} {a : Int} {m : Nat}
    (hx : ev r x = .int .i64 a) (hy : ev r y = .int .i64 m) (hm : m < 9223372036854775808) (k : ∀ v : Nat, v ≤ m → WL P n ds all rest Q (upd n r d (.int .i64 (v : Nat))) w) :
    WL P n ds all (⟨some d, .binOp .and t x y yt, ty, pos, af, none⟩ :: rest) Q r w := by
  obtain ⟨v, h1, h2⟩ := R_andMask (P := P) (ρ := ev r) (d := some d) (ty := ty) (pos := pos) (af := af) (g := none) (x := x) (y := y) (t := t) (yt := yt) hx hy hm
  exact WL.val1 (h2 w) (k v h1)
end Go.Eng
