/- A part of the proof engine: rules for steps of the machine over frames and memory. Each under the conditions that its own statement names. -/
import Derived.Test.YtcnhcckbdmjdiaaGreatDoorEng2
import Derived.Laws.StructEq
import Derived.Laws.Strings
import Derived.Laws.Slices
import Derived.Laws.Sem
import Derived.Laws.CopyRow
import Derived.Laws.Cells
import Derived.Laws.Small
set_option linter.all false
set_option linter.unusedSimpArgs false
set_option linter.unusedVariables false
namespace Go.Eng
open Go
abbrev Str := List UInt8
/-- a string's bytes -/
def B (l : Str) : ByteArray := ⟨l.toArray⟩
theorem B_toList (l : Str) : (B l).toList = l := by rw [ByteArray.toList_eq]; rfl
theorem B_size (l : Str) : (B l).size = l.length := rfl
theorem B_of (s : ByteArray) : B s.data.toList = s := rfl
theorem B_inj {a b : Str} (h : B a = B b) : a = b := by have := congrArg ByteArray.toList h; rwa [B_toList, B_toList] at this
/-- the i-th byte -/
def at8 (l : Str) (i : Nat) : Int := ((l.getD i 0).toNat : Int)
theorem at8_lo (l : Str) (i : Nat) : 0 ≤ at8 l i := by unfold at8; omega
theorem at8_hi (l : Str) (i : Nat) : at8 l i ≤ 255 := by unfold at8; have := (l.getD i 0).toNat_lt; omega
theorem at8_rng (l : Str) (i : Nat) : 0 ≤ at8 l i ∧ at8 l i ≤ 255 := ⟨at8_lo l i, at8_hi l i⟩
/-- what is there under a guard -/
def gv (g : Bool) (v : Value) : Value := bif g then v else undef
theorem gvT {g : Bool} {x v : Value} (hg : g = true) (h : x = gv g v) : x = v := by subst hg; exact h
section
variable {P : Program} {ρ : Operand → Value} {w : World} {d : Option Nat} {ty : TypeId} {pos : String} {af : Array Edge} {g : Option (Nat × Bool)} {x y c : Operand} {t yt : TypeId}
theorem R_move {v} (hx : ρ x = v) : (execOp ρ ⟨d, .move x, ty, pos, af, g⟩).run P w = .ok (.value v) w := by subst hx; rfl
theorem R_assign {v} (hx : ρ x = v) : (execOp ρ ⟨d, .assign x, ty, pos, af, g⟩).run P w = .ok (.value v) w := by subst hx; rfl
section ints
variable {k : IntKind} {a b : Int}
theorem R_add (hx : ρ x = .int k a) (hy : ρ y = .int k b) : (execOp ρ ⟨d, .binOp .add t x y yt, ty, pos, af, g⟩).run P w = .ok (.value (.int k (k.wrap (a + b)))) w := by
  simp [execOp, hx, hy, eqGuard, binOp, Op.intArith]
theorem R_sub (hx : ρ x = .int k a) (hy : ρ y = .int k b) : (execOp ρ ⟨d, .binOp .sub t x y yt, ty, pos, af, g⟩).run P w = .ok (.value (.int k (k.wrap (a - b)))) w := by
  simp [execOp, hx, hy, eqGuard, binOp, Op.intArith]
theorem R_mul (hx : ρ x = .int k a) (hy : ρ y = .int k b) : (execOp ρ ⟨d, .binOp .mul t x y yt, ty, pos, af, g⟩).run P w = .ok (.value (.int k (k.wrap (a * b)))) w := by
  simp [execOp, hx, hy, eqGuard, binOp, Op.intArith]
theorem R_quo (hx : ρ x = .int k a) (hy : ρ y = .int k b) (hb : b ≠ 0) : (execOp ρ ⟨d, .binOp .quo t x y yt, ty, pos, af, g⟩).run P w = .ok (.value (.int k (k.wrap (a.tdiv b)))) w := by
  simp [execOp, hx, hy, eqGuard, binOp, Op.intDiv, hb]
theorem R_rem (hx : ρ x = .int k a) (hy : ρ y = .int k b) (hb : b ≠ 0) : (execOp ρ ⟨d, .binOp .rem t x y yt, ty, pos, af, g⟩).run P w = .ok (.value (.int k (a.tmod b))) w := by
  simp [execOp, hx, hy, eqGuard, binOp, Op.intDiv, hb]
theorem wrap_i64_in {n : Int} (h : -9223372036854775808 ≤ n ∧ n ≤ 9223372036854775807) : IntKind.i64.wrap n = n := by
  rw [IntKind.wrap_i64]; omega
theorem R_add_i (hx : ρ x = .int .i64 a) (hy : ρ y = .int .i64 b) (h : -9223372036854775808 ≤ a + b ∧ a + b ≤ 9223372036854775807) : (execOp ρ ⟨d, .binOp .add t x y yt, ty, pos, af, g⟩).run P w = .ok (.value (.int .i64 (a + b))) w := by
  rw [R_add hx hy, wrap_i64_in h]
theorem R_sub_i (hx : ρ x = .int .i64 a) (hy : ρ y = .int .i64 b) (h : -9223372036854775808 ≤ a - b ∧ a - b ≤ 9223372036854775807) : (execOp ρ ⟨d, .binOp .sub t x y yt, ty, pos, af, g⟩).run P w = .ok (.value (.int .i64 (a - b))) w := by
  rw [R_sub hx hy, wrap_i64_in h]
theorem R_mul_i (hx : ρ x = .int .i64 a) (hy : ρ y = .int .i64 b) (h : -9223372036854775808 ≤ a * b ∧ a * b ≤ 9223372036854775807) : (execOp ρ ⟨d, .binOp .mul t x y yt, ty, pos, af, g⟩).run P w = .ok (.value (.int .i64 (a * b))) w := by
  rw [R_mul hx hy, wrap_i64_in h]
/-- quotient and rest of what is not below 0 -/
theorem R_quo_i (hx : ρ x = .int .i64 a) (hy : ρ y = .int .i64 b) (ha : 0 ≤ a ∧ a ≤ 9223372036854775807) (hb : 0 < b) : (execOp ρ ⟨d, .binOp .quo t x y yt, ty, pos, af, g⟩).run P w = .ok (.value (.int .i64 (a / b))) w := by
  rw [R_quo hx hy (by omega), Int.tdiv_eq_ediv_of_nonneg ha.1, wrap_i64_in]
  have h1 : a / b ≤ a := Int.ediv_le_self b ha.1
  have h2 : 0 ≤ a / b := Int.ediv_nonneg ha.1 (by omega)
  omega
theorem R_rem_i (hx : ρ x = .int k a) (hy : ρ y = .int k b) (ha : 0 ≤ a) (hb : 0 < b) : (execOp ρ ⟨d, .binOp .rem t x y yt, ty, pos, af, g⟩).run P w = .ok (.value (.int k (a % b))) w := by
  rw [R_rem hx hy (by omega), Int.tmod_eq_emod_of_nonneg ha]
theorem R_eql (hx : ρ x = .int k a) (hy : ρ y = .int k b) : (execOp ρ ⟨d, .binOp .eql t x y yt, ty, pos, af, g⟩).run P w = .ok (.value (.bool (decide (a = b)))) w := by
  have : (a == b) = decide (a = b) := rfl
  simp [execOp, hx, hy, eqGuard, binOp, Op.intCmp, this]
theorem R_neq (hx : ρ x = .int k a) (hy : ρ y = .int k b) : (execOp ρ ⟨d, .binOp .neq t x y yt, ty, pos, af, g⟩).run P w = .ok (.value (.bool (decide (a ≠ b)))) w := by
  have : (a != b) = decide (a ≠ b) := by by_cases h : a = b <;> simp [h]
  simp [execOp, hx, hy, eqGuard, binOp, Op.intCmp, this]
theorem R_lss (hx : ρ x = .int k a) (hy : ρ y = .int k b) : (execOp ρ ⟨d, .binOp .lss t x y yt, ty, pos, af, g⟩).run P w = .ok (.value (.bool (decide (a < b)))) w := by
  simp [execOp, hx, hy, eqGuard, binOp, Op.intCmp]
theorem R_leq (hx : ρ x = .int k a) (hy : ρ y = .int k b) : (execOp ρ ⟨d, .binOp .leq t x y yt, ty, pos, af, g⟩).run P w = .ok (.value (.bool (decide (a ≤ b)))) w := by
  simp [execOp, hx, hy, eqGuard, binOp, Op.intCmp]
theorem R_gtr (hx : ρ x = .int k a) (hy : ρ y = .int k b) : (execOp ρ ⟨d, .binOp .gtr t x y yt, ty, pos, af, g⟩).run P w = .ok (.value (.bool (decide (b < a)))) w := by
  simp [execOp, hx, hy, eqGuard, binOp, Op.intCmp]
theorem R_geq (hx : ρ x = .int k a) (hy : ρ y = .int k b) : (execOp ρ ⟨d, .binOp .geq t x y yt, ty, pos, af, g⟩).run P w = .ok (.value (.bool (decide (b ≤ a)))) w := by
  simp [execOp, hx, hy, eqGuard, binOp, Op.intCmp]
theorem R_conv {k2 : IntKind} {u1 : TypeDesc} {t2 : TypeId} (hx : ρ x = .int k a) (h1 : P.underlying t = some u1) (h2 : P.underlying t2 = some (.int k2)) : (execOp ρ ⟨d, .convert t t2 x, ty, pos, af, g⟩).run P w = .ok (.value (.int k2 (k2.wrap a))) w := by
  simp [execOp, convert, hx, run_underlying h1, run_underlying h2, Conv.intToInt]
theorem R_conv_i {u1 : TypeDesc} {t2 : TypeId} (hx : ρ x = .int k a) (h1 : P.underlying t = some u1) (h2 : P.underlying t2 = some (.int .i64)) (h : -9223372036854775808 ≤ a ∧ a ≤ 9223372036854775807) : (execOp ρ ⟨d, .convert t t2 x, ty, pos, af, g⟩).run P w = .ok (.value (.int .i64 a)) w := by
  rw [R_conv hx h1 h2, wrap_i64_in h]
theorem wrap_u8_in {n : Int} (h : 0 ≤ n ∧ n ≤ 255) : IntKind.u8.wrap n = n := by rw [IntKind.wrap_u8]; omega
theorem R_sub_u8 (hx : ρ x = .int .u8 a) (hy : ρ y = .int .u8 b) (h : 0 ≤ a - b ∧ a - b ≤ 255) : (execOp ρ ⟨d, .binOp .sub t x y yt, ty, pos, af, g⟩).run P w = .ok (.value (.int .u8 (a - b))) w := by
  rw [R_sub hx hy, wrap_u8_in h]
theorem R_conv_u8 {u1 : TypeDesc} {t2 : TypeId} (hx : ρ x = .int k a) (h1 : P.underlying t = some u1) (h2 : P.underlying t2 = some (.int .u8)) (h : 0 ≤ a ∧ a ≤ 255) : (execOp ρ ⟨d, .convert t t2 x, ty, pos, af, g⟩).run P w = .ok (.value (.int .u8 a)) w := by
  rw [R_conv hx h1 h2, wrap_u8_in h]
theorem R_neg (hx : ρ x = .int .i64 a) (h : -9223372036854775808 ≤ -a ∧ -a ≤ 9223372036854775807) : (execOp ρ ⟨d, .unOp .neg t x, ty, pos, af, g⟩).run P w = .ok (.value (.int .i64 (-a))) w := by
  have : IntKind.i64.wrap (-a) = -a := wrap_i64_in h
  simp [execOp, hx, Op.unary, Op.intArith, this]
end ints
section strings
variable {a b : Str}
theorem R_sadd (hx : ρ x = .string (B a)) (hy : ρ y = .string (B b)) (hl : a.length + b.length ≤ 9223372036854775807) : (execOp ρ ⟨d, .binOp .add t x y yt, ty, pos, af, g⟩).run P w = .ok (.value (.string (B (a ++ b)))) w := by
  have e : B a ++ B b = B (a ++ b) := by
    apply ByteArray.ext
    simp [B, ByteArray.data_append]
  have hl' : ((B a).size : Int) + ((B b).size : Int) ≤ 9223372036854775807 := by rw [B_size, B_size]; omega
  simp [execOp, hx, hy, eqGuard, binOp, Op.stringOp, e, hl']
theorem R_seql (hx : ρ x = .string (B a)) (hy : ρ y = .string (B b)) : (execOp ρ ⟨d, .binOp .eql t x y yt, ty, pos, af, g⟩).run P w = .ok (.value (.bool (decide (a = b)))) w := by
  have : (a == b) = decide (a = b) := by by_cases h : a = b <;> simp [h]
  simp [execOp, hx, hy, eqGuard, binOp, Op.stringOp, B_toList, this]
theorem R_sneq (hx : ρ x = .string (B a)) (hy : ρ y = .string (B b)) : (execOp ρ ⟨d, .binOp .neq t x y yt, ty, pos, af, g⟩).run P w = .ok (.value (.bool (decide (a ≠ b)))) w := by
  have : (a == b) = decide (a = b) := by by_cases h : a = b <;> simp [h]
  simp [execOp, hx, hy, eqGuard, binOp, Op.stringOp, B_toList, this]
theorem R_slss (hx : ρ x = .string (B a)) (hy : ρ y = .string (B b)) : (execOp ρ ⟨d, .binOp .lss t x y yt, ty, pos, af, g⟩).run P w = .ok (.value (.bool (Op.bytesLess a b))) w := by
  simp [execOp, hx, hy, eqGuard, binOp, Op.stringOp, B_toList]
theorem R_sgeq (hx : ρ x = .string (B a)) (hy : ρ y = .string (B b)) : (execOp ρ ⟨d, .binOp .geq t x y yt, ty, pos, af, g⟩).run P w = .ok (.value (.bool (!Op.bytesLess a b))) w := by
  simp [execOp, hx, hy, eqGuard, binOp, Op.stringOp, B_toList]
theorem R_slen {t} (hx : ρ x = .string (B a)) (ht : P.underlying t = some .string) : (execOp ρ ⟨d, .call ⟨.builtin .len, [x].toArray, [t].toArray⟩, ty, pos, af, g⟩).run P w = .ok (.value (.int .i64 (a.length : Nat))) w := by
  simp [execOp, resolve, invoke, builtin, Builtin.len_, hx, run_underlying ht, goInt, B_size]
theorem R_sindex {k : IntKind} {i : Int} {n : Nat} (hx : ρ x = .string (B a)) (hy : ρ y = .int k i) (ht : P.underlying t = some .string) (hi : i = n) (hn : n < a.length) :
    (execOp ρ ⟨d, .index t x y, ty, pos, af, g⟩).run P w = .ok (.value (.int .u8 (at8 a n))) w := by
  subst hi
  have e : (B a)[n]? = some (a.getD n 0) := by
    rw [List.getD_eq_getElem?_getD, List.getElem?_eq_getElem hn]
    show (if h : n < (B a).size then some ((B a)[n]'h) else none) = _
    rw [dif_pos (by rw [B_size]; exact hn)]
    rfl
  simp [execOp, Instr.index, hx, hy, asIntOf, run_underlying ht, e, at8]
theorem extract_B (a : Str) (i j : Nat) : (B a).extract i j = B ((a.take j).drop i) := by
  apply ByteArray.ext
  simp [B, ByteArray.data_extract, List.extract_eq_take_drop, List.drop_take]
theorem R_sslice {k k' : IntKind} {i j : Int} {m n : Nat} {lo hi : Operand} (hx : ρ x = .string (B a)) (hlo : ρ lo = .int k i) (hhi : ρ hi = .int k' j) (ht : P.underlying t = some .string) (hm : i = m) (hn : j = n) (h1 : m ≤ n) (h2 : n ≤ a.length) :
    (execOp ρ ⟨d, .slice t x (some lo) (some hi) none, ty, pos, af, g⟩).run P w = .ok (.value (.string (B ((a.take n).drop m)))) w := by
  subst hm; subst hn
  have e1 : 0 ≤ (n : Int) ∧ (n : Int) ≤ (B a).size := by rw [B_size]; omega
  have e2 : 0 ≤ (m : Int) ∧ (m : Int) ≤ (n : Int) := by omega
  simp [execOp, Instr.sliceAt, Instr.slice, hx, hlo, hhi, run_underlying ht, Instr.sliceBounds, Instr.sliceBound, asIntOf, e1, e2, extract_B, h1]
  intro h
  rw [B_size] at h
  omega
theorem R_sslice_l {k : IntKind} {i : Int} {m : Nat} {lo : Operand} (hx : ρ x = .string (B a)) (hlo : ρ lo = .int k i) (ht : P.underlying t = some .string) (hm : i = m) (h1 : m ≤ a.length) :
    (execOp ρ ⟨d, .slice t x (some lo) none none, ty, pos, af, g⟩).run P w = .ok (.value (.string (B (a.drop m)))) w := by
  subst hm
  have e2 : 0 ≤ (m : Int) ∧ (m : Int) ≤ (B a).size := by rw [B_size]; omega
  simp [execOp, Instr.sliceAt, Instr.slice, hx, hlo, run_underlying ht, Instr.sliceBounds, Instr.sliceBound, asIntOf, e2, extract_B, h1, B_size]
theorem R_sslice_h {k' : IntKind} {j : Int} {n : Nat} {hi : Operand} (hx : ρ x = .string (B a)) (hhi : ρ hi = .int k' j) (ht : P.underlying t = some .string) (hn : j = n) (h2 : n ≤ a.length) :
    (execOp ρ ⟨d, .slice t x none (some hi) none, ty, pos, af, g⟩).run P w = .ok (.value (.string (B (a.take n)))) w := by
  subst hn
  have e1 : 0 ≤ (n : Int) ∧ (n : Int) ≤ (B a).size := by rw [B_size]; omega
  simp [execOp, Instr.sliceAt, Instr.slice, hx, hhi, run_underlying ht, Instr.sliceBounds, Instr.sliceBound, asIntOf, e1, extract_B, h2, B_size]
end strings
theorem R_not {b} (hx : ρ x = .bool b) : (execOp ρ ⟨d, .unOp .not t x, ty, pos, af, g⟩).run P w = .ok (.value (.bool (!b))) w := by
  simp [execOp, hx, Op.unary]
theorem R_beql {a b : Bool} (hx : ρ x = .bool a) (hy : ρ y = .bool b) (ht : P.underlying t = some .bool) : (execOp ρ ⟨d, .binOp .eql t x y yt, ty, pos, af, g⟩).run P w = .ok (.value (.bool (a == b))) w := by
  simp [execOp, hx, hy, eqGuard, binOp, Op.equal, Op.maxDepth, run_equalIn_bool' (h := ht)]
theorem R_bneq {a b : Bool} (hx : ρ x = .bool a) (hy : ρ y = .bool b) (ht : P.underlying t = some .bool) : (execOp ρ ⟨d, .binOp .neq t x y yt, ty, pos, af, g⟩).run P w = .ok (.value (.bool (!(a == b)))) w := by
  simp [execOp, hx, hy, eqGuard, binOp, Op.equal, Op.maxDepth, run_equalIn_bool' (h := ht)]
theorem R_pick {cb} {v : Value} (hc : ρ c = .bool cb) (h1 : cb = true → ρ x = v) (h2 : cb = false → ρ y = v) : (execOp ρ ⟨d, .pick c x y, ty, pos, af, g⟩).run P w = .ok (.value v) w := by
  cases cb
  · simp [execOp, hc, asBool, h2]
  · simp [execOp, hc, asBool, h1]
/-- c || y -/
theorem R_or {cb yb} (hc : ρ c = .bool cb) (hx : ρ x = .bool true) (hy : ρ y = gv (!cb) (.bool yb)) : (execOp ρ ⟨d, .pick c x y, ty, pos, af, g⟩).run P w = .ok (.value (.bool (cb || yb))) w :=
  R_pick hc (fun h => by rw [hx, h]; rfl) (fun h => by rw [hy, h]; rfl)
/-- c && x -/
theorem R_and {cb yb} (hc : ρ c = .bool cb) (hx : ρ x = gv cb (.bool yb)) (hy : ρ y = .bool false) : (execOp ρ ⟨d, .pick c x y, ty, pos, af, g⟩).run P w = .ok (.value (.bool (cb && yb))) w :=
  R_pick hc (fun h => by rw [hx, h]; rfl) (fun h => by rw [hy, h]; rfl)
theorem R_len_slice {ao n cc} {e : TypeId} (hx : ρ x = .slice ao n cc) (ht : P.underlying t = some (.slice e)) : (execOp ρ ⟨d, .call ⟨.builtin .len, [x].toArray, [t].toArray⟩, ty, pos, af, g⟩).run P w = .ok (.value (.int .i64 (n : Nat))) w := by
  simp [execOp, resolve, invoke, builtin, Builtin.len_, hx, run_underlying ht, goInt]
theorem R_min {k} {a b : Int} {t1 t2} (hx : ρ x = .int k a) (hy : ρ y = .int k b) : (execOp ρ ⟨d, .call ⟨.builtin .min, [x, y].toArray, [t1, t2].toArray⟩, ty, pos, af, g⟩).run P w = .ok (.value (.int k (min a b))) w := by
  have : (if b < a then b else a) = min a b := by rw [Int.min_def]; split <;> split <;> omega
  simp [execOp, resolve, invoke, builtin, Builtin.min_, Builtin.min2, hx, hy, this]
theorem R_max {k} {a b : Int} {t1 t2} (hx : ρ x = .int k a) (hy : ρ y = .int k b) : (execOp ρ ⟨d, .call ⟨.builtin .max, [x, y].toArray, [t1, t2].toArray⟩, ty, pos, af, g⟩).run P w = .ok (.value (.int k (max a b))) w := by
  have : (if a < b then b else a) = max a b := by rw [Int.max_def]; split <;> split <;> omega
  simp [execOp, resolve, invoke, builtin, Builtin.max_, Builtin.max2, hx, hy, this]
theorem R_extract {vs : Array Value} {i : Nat} {v} (hx : ρ x = .tuple vs) (hv : vs[i]? = some v) : (execOp ρ ⟨d, .extract x i, ty, pos, af, g⟩).run P w = .ok (.value v) w := by
  simp [execOp, Instr.extract, hx, hv]
theorem R_call {f : FuncId} {xs : List Operand} {tys : Array TypeId} {vs : List Value} (hc : ∀ args w, (callFunc f args).run P w = .ok (.enter f args) w) (hv : xs.map ρ = vs) (hf : ρ (.func f) = .func (.func f) #[] #[]) :
    (execOp ρ ⟨d, .call ⟨.value (.func f), xs.toArray, tys⟩, ty, pos, af, g⟩).run P w = .ok (.enter f vs.toArray) w := by
  subst hv
  simp [execOp, resolve, Deferred.ofValue, invoke, hf, hc]
/-- a call through a closure -/
theorem R_callv {f : FuncId} {fo : Operand} {cap : Array Value} {xs : List Operand} {tys : Array TypeId} {vs : List Value} (hf : ρ fo = .func (.func f) #[] cap) (hc : ∀ args w, (callFunc f args).run P w = .ok (.enter f args) w) (hv : xs.map ρ = vs) :
    (execOp ρ ⟨d, .call ⟨.value fo, xs.toArray, tys⟩, ty, pos, af, g⟩).run P w = .ok (.enter f (vs.toArray ++ cap)) w := by
  subst hv
  simp [execOp, resolve, Deferred.ofValue, invoke, hf, hc]
theorem R_nilCheck {a : Addr} (hx : ρ x = .pointer (some a)) : (execOp ρ ⟨d, .nilCheck x, ty, pos, af, g⟩).run P w = .ok (.value (.pointer (some a))) w := by
  simp [execOp, hx]
end
end Go.Eng
