/- What the layers compute, in plain Lean, and laws about that. Each under the conditions that its own statement names. -/
import Derived.Test.YtcnhcckbdmjdiaaGreatDoorSeatS2
import Derived.Test.YtcnhcckbdmjdiaaGreatDoorSpec10
set_option linter.all false
set_option linter.unusedSimpArgs false
set_option linter.unusedVariables false
namespace Go.Stet
open Go Go.Eng Go.Proofs
theorem decFrom_snoc : ∀ (l : Str) (acc : Nat) (b : UInt8), Lib.decFrom acc (l ++ [b]) = (Lib.decFrom acc l).bind fun m => (Lib.digitVal b).map fun d => m * 10 + d
  | [], acc, b => by
    simp only [List.nil_append, Lib.decFrom, Option.bind_some]
    cases Lib.digitVal b <;> rfl
  | a :: l, acc, b => by
    simp only [List.cons_append, Lib.decFrom]
    cases Lib.digitVal a with
    | none => rfl
    | some d => exact decFrom_snoc l _ b
theorem digitVal_of {k : Nat} (h : k < 10) : Lib.digitVal (UInt8.ofNat (48 + k)) = some k := by
  unfold Lib.digitVal
  rw [UInt8.toNat_ofNat', if_pos (by omega)]
  congr 1; omega
theorem decFrom_digits : ∀ n : Nat, Lib.decFrom 0 (digitsS n) = some n := by
  intro n
  induction n using Nat.strongRecOn with
  | _ n ih =>
    by_cases h : n < 10
    · rw [digitsS_small h]
      show Lib.decFrom 0 ([] ++ [UInt8.ofNat (48 + n)]) = _
      rw [decFrom_snoc, digitVal_of h]; simp [Lib.decFrom]
    · rw [digitsS_big h, decFrom_snoc, ih (n / 10) (by omega), digitVal_of (Nat.mod_lt _ (by omega))]
      simp; omega
theorem digits_bytes : ∀ n : Nat, ∀ b ∈ digitsS n, 48 ≤ b.toNat ∧ b.toNat ≤ 57 := by
  intro n
  induction n using Nat.strongRecOn with
  | _ n ih =>
    have one : ∀ k, k < 10 → 48 ≤ (UInt8.ofNat (48 + k)).toNat ∧ (UInt8.ofNat (48 + k)).toNat ≤ 57 := fun k hk => by rw [UInt8.toNat_ofNat']; omega
    by_cases h : n < 10
    · rw [digitsS_small h]
      intro b hb; rw [List.mem_singleton] at hb; subst hb; exact one n h
    · rw [digitsS_big h]
      intro b hb
      rcases List.mem_append.1 hb with hb | hb
      · exact ih (n / 10) (by omega) b hb
      · rw [List.mem_singleton] at hb; subst hb; exact one _ (Nat.mod_lt _ (by omega))
theorem atoi_itoa (n : Nat) : Lib.atoi (digitsS n) = some (n : Int) := by
  have hp := digitsS_pos n
  have hb := digits_bytes n
  have hd := decFrom_digits n
  match hm : digitsS n with
  | [] => rw [hm] at hp; simp at hp
  | b :: r =>
    rw [hm] at hb hd
    have h1 := hb b (by simp)
    have e1 : (b == 45) = false := by
      cases hh : (b == 45) with
      | false => rfl
      | true => have := beq_iff_eq.1 hh; subst this; simp at h1
    have e2 : (b == 43) = false := by
      cases hh : (b == 43) with
      | false => rfl
      | true => have := beq_iff_eq.1 hh; subst this; simp at h1
    have e3 : Lib.decNat (b :: r) = some n := by unfold Lib.decNat; rw [if_neg (by simp), hd]
    simp [Lib.atoi, e1, e2, e3]
theorem ext_bytes (w : World) (e : TypeId) (s : ByteArray) : Ext w (Lib.bytesWorld w e s) := by
  refine ⟨?_, ?_, ?_, ?_, fun b hb _ => ?_⟩
  · unfold Lib.bytesWorld World.freeze; split <;> rfl
  · unfold Lib.bytesWorld World.freeze; split <;> rfl
  · unfold Lib.bytesWorld World.freeze; split <;> rfl
  · unfold Lib.bytesWorld World.freeze; split <;> simp
  · have h1 := (ext_alloc w.drew (.cells (Lib.bytesCells w e s) e)).old b hb id
    unfold Lib.bytesWorld World.freeze
    split
    · exact h1
    · simp only [Array.getElem?_modify]
      rw [if_neg (by omega)]
      exact h1
theorem lib_Atoi (s : Str) (n : Int) (hs : s = Lib.itoa n) (hn : 0 ≤ n ∧ n ≤ 1000000) : PureC GG Tryz.prog 55 (fun _ => True) [.string (B s)] (.tuple #[.int .i64 n, .nilIface]) := by
  intro Γ h L w _ hS
  obtain ⟨k, rfl⟩ : ∃ k : Nat, n = k := ⟨n.toNat, by omega⟩
  rw [itoa_digits] at hs
  subst hs
  have hl := digitsS_len k (by omega)
  refine Ret.of (Tryz.strconv_Atoi (B (digitsS k)) k (by rw [B_size]; omega) (atoi_itoa k) w) ?_
  rintro e w' ⟨he, t, hw⟩
  subst hw
  exact ⟨_, he, rfl, hS.ext (ext_bytes w 5 t)⟩
end Go.Stet
