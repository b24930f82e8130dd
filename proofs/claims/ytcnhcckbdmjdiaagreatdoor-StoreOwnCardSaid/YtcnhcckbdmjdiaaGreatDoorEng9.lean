/- A part of the proof engine: rules for steps of the machine over frames and memory. Each under the conditions that its own statement names. -/
import Derived.Test.YtcnhcckbdmjdiaaGreatDoorEng8
import Derived.Laws.Shifts
import Derived.Laws.Bits64
set_option linter.all false
set_option linter.unusedSimpArgs false
set_option linter.unusedVariables false
namespace Go.Eng
open Go
section
variable {P : Program} {ρ : Operand → Value} {w : World} {d : Option Nat} {ty : TypeId} {pos : String} {af : Array Edge} {g : Option (Nat × Bool)} {x y : Operand} {t yt t2 : TypeId} {a : Int} {k : IntKind}
theorem R_shr {yk : IntKind} {c : Int} {v : Int} (hx : ρ x = .int k a) (hy : ρ y = .int yk c) (hc : 0 ≤ c) (hv : a / 2 ^ min c.toNat k.bits = v) : (execOp ρ ⟨d, .binOp .shr t x y yt, ty, pos, af, g⟩).run P w = .ok (.value (.int k v)) w := by
  simp [execOp, hx, hy, eqGuard, binOp, shift_shr_any _ _ _ _ hc, hv]
theorem R_conv_u64 {u1 : TypeDesc} (hx : ρ x = .int k a) (h1 : P.underlying t = some u1) (h2 : P.underlying t2 = some (.int .u64)) (h : 0 ≤ a ∧ a ≤ 18446744073709551615) : (execOp ρ ⟨d, .convert t t2 x, ty, pos, af, g⟩).run P w = .ok (.value (.int .u64 a)) w := by
  have : IntKind.u64.wrap a = a := by rw [IntKind.wrap_u64]; omega
  rw [R_conv hx h1 h2, this]
end
section
variable {G : World → Prop} {Γ : Ctx G} {h : Hp} {L : List HProp} {P : Program} {n : Nat} {ds : List Deferred} {all rest : List Oper} {Q : Qr} {r : Nat → Value} {w : World}
  {d : Nat} {ty : TypeId} {pos : String} {af : Array Edge} {fo : Operand}
theorem S_callvP {f : FuncId} {xs : List Operand} {tys : Array TypeId} {vs cap : List Value} {v} (hf : ev r fo = .func (.func f) #[] cap.toArray) (hS : St Γ h L w) (hc : ∀ args w, (callFunc f args).run P w = .ok (.enter f args) w) (hv : xs.map (ev r) = vs) {pre} (hp : PureC G P f pre (vs ++ cap) v) (hpre : pre h)
    (k : ∀ w', St Γ h L w' → WL P n ds all rest Q (upd n r d v) w') :
    WL P n ds all (⟨some d, .call ⟨.value fo, xs.toArray, tys⟩, ty, pos, af, none⟩ :: rest) Q r w :=
  WL.enter (R_callv hf hc hv) (by rw [show vs.toArray ++ cap.toArray = (vs ++ cap).toArray by simp]; exact (hp Γ h L w hpre hS).mono fun v' w' ⟨hv', hS'⟩ => by subst hv'; exact k w' hS')
theorem S_gcallvP {f : FuncId} {xs : List Operand} {tys : Array TypeId} {vs cap : List Value} {v} {j b} {gd : Bool} (hf : gd = true → ev r fo = .func (.func f) #[] cap.toArray) (hS : St Γ h L w) (hc : ∀ args w, (callFunc f args).run P w = .ok (.enter f args) w) (hy : (yl all r j == some b) = gd)
    (hv : gd = true → xs.map (ev r) = vs) {pre} (hp : gd = true → PureC G P f pre (vs ++ cap) v) (hpre : gd = true → pre h)
    (k : ∀ w', St Γ h L w' → WL P n ds all rest Q (upd n r d (gv gd v)) w') :
    WL P n ds all (⟨some d, .call ⟨.value fo, xs.toArray, tys⟩, ty, pos, af, some (j, b)⟩ :: rest) Q r w := by
  cases gd with
  | true =>
    refine WL.genter (by simpa using hy) (R_callv (hf rfl) hc (hv rfl)) ?_
    rw [show vs.toArray ++ cap.toArray = (vs ++ cap).toArray by simp]
    exact (hp rfl Γ h L w (hpre rfl) hS).mono fun v' w' ⟨hv', hS'⟩ => by subst hv'; exact k w' hS'
  | false =>
    refine WL.skip ?_ (k _ hS)
    cases hh : yl all r j with
    | none => exact .inr rfl
    | some c => left; rw [hh] at hy; cases b <;> cases c <;> simp_all
end
end Go.Eng
namespace Go.Eng
open Go
/-- it turns chunks of the caller's -/
def MutL (G : World → Prop) (P : Program) (f : FuncId) (pre : Hp → Prop) (args : List Value) (A : Hp → List HProp) (post : Hp → List HProp → Value → Prop) : Prop :=
  ∀ (Γ : Ctx G) h L w, pre h → St Γ h (A h ++ L) w → Ret P f args.toArray w fun v w' => ∃ h' A', h.le h' ∧ post h' A' v ∧ St Γ h' (A' ++ L) w'
section
variable {G : World → Prop} {Γ : Ctx G} {h : Hp} {L : List HProp} {P : Program} {n : Nat} {ds : List Deferred} {all rest : List Oper} {Q : Qr} {r : Nat → Value} {w : World}
  {ty : TypeId} {pos : String} {af : Array Edge}
theorem S_callL {f : FuncId} {xs : List Operand} {tys : Array TypeId} {vs : List Value} {A : Hp → List HProp} {post} {dd : Option Nat} (hS : St Γ h (A h ++ L) w) (hc : ∀ args w, (callFunc f args).run P w = .ok (.enter f args) w) (hv : xs.map (ev r) = vs) {pre} (hp : MutL G P f pre vs A post) (hpre : pre h)
    (k : ∀ h' A' v w', h.le h' → post h' A' v → St Γ h' (A' ++ L) w' → WL P n ds all rest Q (putd n r dd v) w') :
    WL P n ds all (⟨dd, .call ⟨.value (.func f), xs.toArray, tys⟩, ty, pos, af, none⟩ :: rest) Q r w :=
  S_call hc hv ((hp Γ h L w hpre hS).mono fun v' w' ⟨h', A', a, b, c⟩ => k h' A' v' w' a b c)
/-- a call in a frame of its own: what it laid down and left may turn as it will -/
theorem PureC.fresh {f : FuncId} {pre args v} (k : ∀ (Γ : Ctx G) h L w, pre h → L = [] → Γ.M = (fun _ => False) → In h Γ.we → St Γ h L w → Ret P f args.toArray w fun v' w' => v' = v ∧ St Γ h L w') : PureC G P f pre args v := by
  intro Γ h L w hpre hS
  have hr : ∀ u, Kept w (fun _ => False) u → Kept Γ.we Γ.M u := fun u hk =>
    hS.keep.stp (S := fun _ => False) ⟨hk.os, hk.tape, hk.output, hk.size, fun b hb _ => hk.old b hb (fun x => x)⟩ (fun _ x => x.elim)
  let Γ' : Ctx G := ⟨w, fun _ => False, fun u hk => Γ.stable u (hr u hk)⟩
  have hS' : St Γ' h [] w := ⟨⟨rfl, rfl, rfl, Nat.le_refl _, fun _ _ _ => rfl⟩, hS.hin, fun _ => none, fun _ => rfl, fun _ _ e => (by cases e), fun b => .inr rfl, fun _ _ e => (by cases e)⟩
  refine (k Γ' h [] w hpre rfl rfl hS.hin hS').mono fun v' w' ⟨hv, hS2⟩ => ⟨hv, ?_⟩
  have hk := hS2.keep
  exact hS.ext ⟨hk.os, hk.tape, hk.output, hk.size, fun b hb _ => hk.old b hb (fun x => x)⟩
end
end Go.Eng
