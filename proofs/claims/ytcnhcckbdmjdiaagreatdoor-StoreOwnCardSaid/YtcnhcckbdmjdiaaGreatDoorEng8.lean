/- Errors: an error value that is nil, or a pointer to a block that holds its number. -/
import Derived.Test.YtcnhcckbdmjdiaaGreatDoorEng7
import Derived.WideLaws
set_option linter.all false
set_option linter.unusedSimpArgs false
set_option linter.unusedVariables false
namespace Go.Eng
open Go
def errV (t : TypeId) (e : Int) (b : Nat) : Value := if e = 0 then .nilIface else .iface t (.pointer (some ⟨b, 0, none⟩))
/-- where there is an error, its second cell holds the number -/
def ErrAt (h : Hp) (e : Int) (b : Nat) : Prop := e ≠ 0 → At h b 1 [.int .i64 e]
theorem ErrAt.mono {h h' : Hp} {e b} (k : ErrAt h e b) (l : h.le h') : ErrAt h' e b := fun he => (k he).mono l
theorem ErrAt.zero (h : Hp) (b : Nat) : ErrAt h 0 b := fun he => absurd rfl he
theorem ErrAt.of {h : Hp} {e : Int} {b : Nat} {x : Value} (k : At h b 0 [x, .int .i64 e]) : ErrAt h e b := fun _ => k.sub 1 1 rfl
section
variable {P : Program} {ρ : Operand → Value} {w : World} {d : Option Nat} {ty : TypeId} {pos : String} {af : Array Edge} {g : Option (Nat × Bool)} {x y : Operand} {t yt : TypeId}
theorem R_errNeq {e : Int} {b : Nat} {u : TypeId} (hx : ρ x = errV u e b) (hy : ρ (.const .nilIface) = .nilIface) (h : P.underlying t = some (.interface (P.methodsAt t))) :
    (execOp ρ ⟨d, .binOp .neq t x (.const .nilIface) yt, ty, pos, af, g⟩).run P w = .ok (.value (.bool (decide (e ≠ 0)))) w := by
  by_cases he : e = 0
  · have hx' : ρ x = .nilIface := by rw [hx, errV, if_pos he]
    have : eqGuard .neq t x (.const .nilIface) .nilIface .nilIface = pure () := by cases x <;> rfl
    simp [execOp, hx', hy, this, run_neq_nil_nil w t h, he]
  · have hx' : ρ x = .iface u (.pointer (some ⟨b, 0, none⟩)) := by rw [hx, errV, if_neg he]
    have : eqGuard .neq t x (.const .nilIface) (.iface u (.pointer (some ⟨b, 0, none⟩))) .nilIface = pure () := by cases x <;> rfl
    simp [execOp, hx', hy, this, run_neq_held_nil w t u _ h, he]
end
section
variable {G : World → Prop} {Γ : Ctx G} {h : Hp} {L : List HProp} {w : World}
/-- a row becomes a committed one -/
theorem St.commitRow {i b : Nat} {l : List Value} {e : TypeId} (hS : St Γ h L w) (hi : L[i]? = some (row b l e)) :
    ∃ h', h.le h' ∧ At h' b 0 l ∧ St Γ h' (L.set i emp) w := by
  obtain ⟨g1, h', k1, k2, k3, k4⟩ := hS.commit hi
  refine ⟨h', k2, ⟨l.toArray, e, (0, 0), k3 _ _ ?_, fun j v hj => by simpa using hj⟩, k4⟩
  rw [k1]; simp
end
end Go.Eng
