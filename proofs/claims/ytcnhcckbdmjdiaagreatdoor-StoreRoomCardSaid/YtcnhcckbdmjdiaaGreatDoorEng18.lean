/- A part of the proof engine: rules for steps of the machine over frames and memory. Each under the conditions that its own statement names. -/
import Derived.Test.YtcnhcckbdmjdiaaGreatDoorEng17
set_option linter.all false
set_option linter.unusedSimpArgs false
set_option linter.unusedVariables false
namespace Go.Eng
open Go
section
variable {G : World → Prop} {Γ : Ctx G} {h : Hp} {L : List HProp} {w : World}
theorem Sats.append : ∀ {A L : List HProp} {g : Hp}, Sats (A ++ L) g → ∃ g1 g2, Sats A g1 ∧ Sats L g2 ∧ Disj g1 g2 ∧ ∀ b, g b = (g1 b).or (g2 b)
  | [], L, g, h => ⟨fun _ => none, g, fun _ => rfl, h, fun _ => .inl rfl, fun _ => rfl⟩
  | B :: A, L, g, ⟨ga, gb, ha, hb, hd, hu⟩ => by
    obtain ⟨g1, g2, h1, h2, h3, h4⟩ := Sats.append hb
    refine ⟨fun b => (ga b).or (g1 b), g2, ⟨ga, g1, ha, h1, fun b => ?_, fun _ => rfl⟩, h2, fun b => ?_, fun b => ?_⟩
    · rcases hd b with h | h
      · exact .inl h
      · right; rw [h4 b] at h; exact (Option.or_eq_none_iff.1 h).1
    · rcases h3 b with h | h
      · rcases hd b with h' | h'
        · left; simp [h, h']
        · right; rw [h4 b] at h'; exact (Option.or_eq_none_iff.1 h').2
      · exact .inr h
    · rw [hu b, h4 b]; simp [Option.or_assoc]
theorem Sats.join : ∀ {A L : List HProp} {g1 g2 : Hp}, Sats A g1 → Sats L g2 → Disj g1 g2 → Sats (A ++ L) fun b => (g1 b).or (g2 b)
  | [], L, g1, g2, h1, h2, _ => by
    have : (fun b => (g1 b).or (g2 b)) = g2 := funext fun b => by rw [h1 b]; rfl
    rw [this]; exact h2
  | B :: A, L, g1, g2, ⟨ga, gb, ha, hb, hd, hu⟩, h2, hd2 => by
    have d1 : Disj gb g2 := fun b => by
      rcases hd2 b with h | h
      · left; rw [hu b] at h; exact (Option.or_eq_none_iff.1 h).2
      · exact .inr h
    refine ⟨ga, _, ha, Sats.join hb h2 d1, fun b => ?_, fun b => by show (g1 b).or (g2 b) = _; rw [hu b, Option.or_assoc]⟩
    rcases hd b with h | h
    · exact .inl h
    · rcases hd2 b with h' | h'
      · left; rw [hu b] at h'; exact (Option.or_eq_none_iff.1 h').1
      · right; simp [h, h']
/-- some chunks alone, in a frame of their own; behind it the others stand as they stood -/
theorem St.sub {A L0 : List HProp} (hS : St Γ h (A ++ L0) w) : ∃ (Γ' : Ctx G) (g0 : Hp), Γ'.we = w ∧ Sats A g0 ∧ (∀ b, Γ'.M b ↔ ∃ o, g0 b = some o) ∧ (∀ b, Γ'.M b → b < w.heap.size) ∧ In h w ∧ St Γ' h A w ∧
    ∀ A' w', St Γ' h A' w' → St Γ h (A' ++ L0) w' := by
  obtain ⟨g, h1, h2, h3, h4⟩ := hS.ex
  obtain ⟨ga, gl, k1, k2, k3, k4⟩ := Sats.append h1
  have ga_g : ∀ b o, ga b = some o → g b = some o := fun b o hb => by rw [k4, hb]; rfl
  have gl_g : ∀ b o, gl b = some o → g b = some o := fun b o hb => by
    rw [k4]; rcases k3 b with h | h
    · rw [h, hb]; rfl
    · rw [h] at hb; cases hb
  have hr : ∀ u, Kept w (fun b => ∃ o, ga b = some o) u → Kept Γ.we Γ.M u := fun u hk =>
    hS.keep.stp (S := fun b => ∃ o, ga b = some o) ⟨hk.os, hk.tape, hk.output, hk.size, fun b hb hn => hk.old b hb hn⟩ fun b ⟨o, ho⟩ => h4 b o (ga_g b o ho)
  refine ⟨⟨w, fun b => ∃ o, ga b = some o, fun u hk => Γ.stable u (hr u hk)⟩, ga, rfl, k1, fun b => Iff.rfl, fun b ⟨o, ho⟩ => h2.lt (ga_g b o ho), hS.hin, ?_, fun A' w' hS' => ?_⟩
  · refine ⟨⟨rfl, rfl, rfl, Nat.le_refl _, fun _ _ _ => rfl⟩, hS.hin, ga, k1, fun b o hb => h2 b o (ga_g b o hb), fun b => ?_, fun b o hb => .inr ⟨o, hb⟩⟩
    rcases h3 b with h | h
    · exact .inl h
    · right
      cases hb : ga b with
      | none => rfl
      | some o => rw [ga_g b o hb] at h; cases h
  · have hk := hS'.keep
    have hold : ∀ b o, gl b = some o → w'.heap[b]? = some o := fun b o hb => by
      have hlt := h2.lt (gl_g b o hb)
      rw [hk.old b hlt (fun ⟨o', ho'⟩ => by
        rcases k3 b with h | h
        · rw [h] at ho'; cases ho'
        · rw [h] at hb; cases hb)]
      exact h2 b o (gl_g b o hb)
    obtain ⟨f, f1, f2, f3, f4⟩ := hS'.ex
    have hd : Disj f gl := fun b => by
      cases hf : f b with
      | none => exact .inl rfl
      | some o =>
        right
        rcases f4 b o hf with h | ⟨o', ho'⟩
        · cases hg : gl b with
          | none => rfl
          | some o' => exact absurd (h2.lt (gl_g b o' hg)) (Nat.not_lt.2 h)
        · rcases k3 b with h | h
          · rw [h] at ho'; cases ho'
          · exact h
    refine ⟨hr w' hk, hS'.hin, _, Sats.join f1 k2 hd, fun b o hb => ?_, fun b => ?_, fun b o hb => ?_⟩
    · replace hb : (f b).or (gl b) = some o := hb
      cases hf : f b with
      | none => rw [hf] at hb; exact hold b o (by simpa using hb)
      | some o1 => rw [hf] at hb; simp at hb; subst hb; exact f2 b o1 hf
    · cases hb : h b with
      | none => exact .inl rfl
      | some o =>
        right
        have e1 : f b = none := by
          rcases f3 b with h' | h'
          · rw [hb] at h'; cases h'
          · exact h'
        have e2 : gl b = none := by
          rcases h3 b with h' | h'
          · rw [hb] at h'; cases h'
          · cases hg : gl b with
            | none => rfl
            | some o' => rw [gl_g b o' hg] at h'; cases h'
        simp [e1, e2]
    · replace hb : (f b).or (gl b) = some o := hb
      cases hf : f b with
      | none => rw [hf] at hb; exact h4 b o (gl_g b o (by simpa using hb))
      | some o1 =>
        rcases f4 b o1 hf with h | ⟨o', ho'⟩
        · left; exact Nat.le_trans hS.keep.size h
        · exact h4 b o' (ga_g b o' ho')
end
section
variable {P : Program} {n : Nat} {ds : List Deferred} {Q : Qr} {r : Nat → Value} {w : World}
/-- so many rounds, one behind the other -/
def unr (P : Program) (n : Nat) (ds : List Deferred) (c : Code) (Q : Qr) : Nat → (Nat → Value) → World → Prop
  | 0, _, _ => False
  | k + 1, r, w => WC P n ds c (qthen (unr P n ds c Q k) Q) r w
theorem WC.unroll {c} (k : Nat) (h : unr P n ds c Q k r w) : WC P n ds (.loop c) Q r w := by
  refine WC.loop (fun (j : Nat) r w => unr P n ds c Q j r w) (fun j => j) k h fun s r w hs => ?_
  cases s with
  | zero => exact hs.elim
  | succ s =>
    refine WC.mono hs fun e r' w' hq => ?_
    cases e with
    | normal => exact ⟨s, hq, Nat.lt_succ_self _⟩
    | _ => exact hq
theorem unr_succ {c} {k : Nat} (h : WC P n ds c (qthen (unr P n ds c Q k) Q) r w) : unr P n ds c Q (k + 1) r w := h
end
theorem WL_andMask {P : Program} {n : Nat} {ds : List Deferred} {all rest : List Oper} {Q : Qr} {r : Nat → Value} {w : World} {d : Nat} {ty : TypeId} {pos : String} {af : Array Edge} {x y : Operand} {t yt : TypeId} {a : Int} {m : Nat}
    (hx : ev r x = .int .i64 a) (hy : ev r y = .int .i64 m) (hm : m < 9223372036854775808) (k : ∀ v : Nat, v ≤ m → WL P n ds all rest Q (upd n r d (.int .i64 (v : Nat))) w) :
    WL P n ds all (⟨some d, .binOp .and t x y yt, ty, pos, af, none⟩ :: rest) Q r w := by
  obtain ⟨v, h1, h2⟩ := R_andMask (P := P) (ρ := ev r) (d := some d) (ty := ty) (pos := pos) (af := af) (g := none) (x := x) (y := y) (t := t) (yt := yt) hx hy hm
  exact WL.val1 (h2 w) (k v h1)
end Go.Eng
