/- From a contract of the engine to a row: arguments opened, and read again behind the call. No condition. -/
import Derived.Test.YtcnhcckbdmjdiaaGreatDoorEng12
import Derived.Carry
import Derived.ChangeArms
import Derived.ChangeSame
import Derived.ChangeVars
import Derived.JoinedOf
import Derived.RowKit
import Derived.RowKitTokens
import Derived.LaidLaws
import Derived.LaidHandle
import Derived.LaidSub
import Derived.Handed
import Derived.Lib.LaidTab
import Derived.Stop.Joined
import Derived.ChangeMaps5
set_option linter.all false
set_option linter.unusedSimpArgs false
set_option linter.unusedVariables false
namespace Go.Eng
open Go Go.ChangeShapes Go.WideShapes Go.RowKit
/-- the memory of a world, as it stands -/
def whp (W : World) : Hp := fun b => W.heap[b]?
/-- what reads as a type's value is of a representation, and such -/
def Opens {α : Type} (P : Program) (t : TypeId) (R : Rp α) (φ : α → Prop) : Prop :=
  P.cellsOf t = R.n ∧ ∀ (H : Type) (enc : TypeId × Value → H) (W : World) (base : Nat) (sp : Nat → Bool) (held : Bool) (fuel : Nat) (cs : List Value) (x : DataW H × List MemPlace),
    DataW.trod enc P W base sp held fuel t cs = some x → ∃ y : α, R.rel (whp W) y cs ∧ φ y
def okStr (s : Str) : Prop := s.length ≤ 9223372036854775807
def okInt (k : IntKind) (n : Int) : Prop := (Lit.int k n).wf = true
def okAny {α : Type} (_ : α) : Prop := True
def okList {α : Type} (φ : α → Prop) (l : List α) : Prop := l.length ≤ 9223372036854775807 ∧ ∀ x ∈ l, φ x
theorem okInt_i64 {n : Int} (h : okInt .i64 n) : -9223372036854775808 ≤ n ∧ n ≤ 9223372036854775807 := by
  have h' : (decide (IntKind.i64.min ≤ n) && decide (n ≤ IntKind.i64.max)) = true := h
  rw [Bool.and_eq_true, decide_eq_true_eq, decide_eq_true_eq, show IntKind.i64.min = -9223372036854775808 by decide, show IntKind.i64.max = 9223372036854775807 by decide] at h'
  exact h'
theorem Opens.str {P : Program} {t : TypeId} (h : P.underlying t = some .string) (hc : P.cellsOf t = 1) : Opens P t Rstr okStr :=
  ⟨hc, fun _ _ _ _ _ _ _ _ _ hx => by
    obtain ⟨s, rfl, _, hs⟩ := DataW.trod_string h hx
    exact ⟨s.data.toList, by show [Value.string s] = [Value.string (B s.data.toList)]; rw [B_of], by rw [ByteArray.size] at hs; simpa [okStr, maxLen] using hs⟩⟩
theorem Opens.bool {P : Program} {t : TypeId} (h : P.underlying t = some .bool) (hc : P.cellsOf t = 1) : Opens P t Rbool okAny :=
  ⟨hc, fun _ _ _ _ _ _ _ _ _ hx => by
    obtain ⟨b, rfl, _⟩ := DataW.trod_bool h hx
    exact ⟨b, rfl, trivial⟩⟩
theorem Opens.int {P : Program} {t : TypeId} {k : IntKind} (h : P.underlying t = some (.int k)) (hc : P.cellsOf t = 1) : Opens P t (Rint k) (okInt k) :=
  ⟨hc, fun _ _ _ _ _ _ _ _ _ hx => by
    obtain ⟨n, rfl, _, hw⟩ := DataW.trod_int h hx
    exact ⟨n, rfl, hw⟩⟩
theorem Opens.slice {α : Type} {P : Program} {t e : TypeId} {R : Rp α} {φ : α → Prop} (ht : P.underlying t = some (.slice e)) (hc : P.cellsOf t = 1) (he : Opens P e R φ) (hn : 0 < R.n) : Opens P t (Rsl R) (okList φ) := by
  refine ⟨hc, fun H enc W base sp held fuel cs x hx => ?_⟩
  rcases DataW.trod_slice ht hx with ⟨rfl, _⟩ | ⟨a, len, cap, elems, rest, n, _, rfl, _, _, hl, hm, hlen, hel, _, _⟩
  · exact ⟨[], ⟨none, 0, rfl, Sl.nil _ _ _ _⟩, Nat.zero_le _, fun x hx => by cases hx⟩
  · have hsp0 : 0 < len → a.spot = none := by
      intro hi
      have h1 := hel 0 hi
      rw [List.getElem?_eq_getElem (by omega)] at h1
      obtain ⟨cs, hcs, hy⟩ := Option.bind_eq_some_iff.1 h1
      obtain ⟨_, hcl, hcell⟩ := World.cells?_some hcs
      rw [he.1] at hcell hcl
      have g0 := hcell 0 hn
      obtain ⟨c0, hc0⟩ : ∃ c0, cs[0]? = some c0 := ⟨_, List.getElem?_eq_getElem (by omega)⟩
      rw [hc0] at g0
      have := World.cell?_spot g0
      simpa [Addr.add] using this
    have each : ∀ i, i < len → ∃ y : α, φ y ∧ ∃ b o cs, a = ⟨b, o, none⟩ ∧ R.rel (whp W) y cs ∧ At (whp W) b (o + i * R.n) cs := by
      intro i hi
      have h1 := hel i hi
      rw [List.getElem?_eq_getElem (by omega)] at h1
      obtain ⟨cs, hcs, hy⟩ := Option.bind_eq_some_iff.1 h1
      obtain ⟨y, hr, hφ⟩ := he.2 _ _ _ _ _ _ _ _ _ hy
      obtain ⟨_, hcl, hcell⟩ := World.cells?_some hcs
      rw [he.1] at hcell hcl
      obtain ⟨b, off, spot⟩ := a
      have g0 := hcell 0 hn
      obtain ⟨c0, hc0⟩ : ∃ c0, cs[0]? = some c0 := ⟨_, List.getElem?_eq_getElem (by omega)⟩
      rw [hc0] at g0
      have hspot : spot = none := hsp0 (by omega)
      subst hspot
      refine ⟨y, hφ, b, off, cs, rfl, hr, ?_⟩
      have hb : ∃ arr e fz, W.heap[b]? = some (.cells arr e fz) := by
        simp only [add_lit] at g0
        cases hb : W.heap[b]? with
        | none => simp [World.cell?, hb] at g0
        | some o =>
          cases o with
          | cells arr e fz => exact ⟨arr, e, fz, rfl⟩
          | _ => simp [World.cell?, hb] at g0
      obtain ⟨arr, e', fz, hb⟩ := hb
      refine ⟨arr, e', fz, hb, fun j v hj => ?_⟩
      have hj' : j < R.n := by
        rcases Nat.lt_or_ge j R.n with h | h
        · exact h
        · rw [List.getElem?_eq_none (by omega)] at hj; cases hj
      have := hcell j hj'
      rw [add_lit, add_lit, cell_row hb, hj] at this
      exact this
    have all : ∀ m, m ≤ len → ∃ xs : List α, xs.length = m ∧ (∀ x ∈ xs, φ x) ∧ ∀ i y, xs[i]? = some y → ∃ b o cs, a = ⟨b, o, none⟩ ∧ R.rel (whp W) y cs ∧ At (whp W) b (o + i * R.n) cs := by
      intro m
      induction m with
      | zero => exact fun _ => ⟨[], rfl, fun x hx => (by cases hx), fun i y h => by simp at h⟩
      | succ m ih =>
        intro hm
        obtain ⟨xs, h1, h0, h2⟩ := ih (by omega)
        obtain ⟨y, hφ, hy⟩ := each m (by omega)
        refine ⟨xs ++ [y], by simp [h1], fun x hx => by
          rcases List.mem_append.1 hx with hx | hx
          · exact h0 x hx
          · rw [List.mem_singleton] at hx; rw [hx]; exact hφ, fun i z hz => ?_⟩
        rcases Nat.lt_or_ge i m with hi | hi
        · rw [List.getElem?_append_left (by omega)] at hz; exact h2 i z hz
        · rw [List.getElem?_append_right (by omega)] at hz
          have : i = m := by
            rcases Nat.lt_or_ge (i - xs.length) 1 with h | h
            · omega
            · rw [List.getElem?_eq_none (by simpa using h)] at hz; cases hz
          subst this
          rw [h1, Nat.sub_self] at hz
          have : z = y := by simpa using hz.symm
          subst this
          exact hy
    obtain ⟨xs, h1, h0, h2⟩ := all len (Nat.le_refl _)
    subst h1
    exact ⟨xs, ⟨some a, cap, rfl, hl, fun k x hx => let ⟨b, o, cs, e1, e2, e3⟩ := h2 k x hx; ⟨b, o, cs, by rw [e1], e2, e3⟩⟩, by have : maxLen = 9223372036854775807 := rfl; omega, h0⟩
theorem list1 {α} {l : List α} (h : l.length = 1) : ∃ a, l = [a] := by
  match l, h with
  | [a], _ => exact ⟨a, rfl⟩
theorem list2 {α} {l : List α} (h : l.length = 2) : ∃ a b, l = [a, b] := by
  match l, h with
  | [a, b], _ => exact ⟨a, b, rfl⟩
theorem list3 {α} {l : List α} (h : l.length = 3) : ∃ a b c, l = [a, b, c] := by
  match l, h with
  | [a, b, c], _ => exact ⟨a, b, c, rfl⟩
theorem list4 {α} {l : List α} (h : l.length = 4) : ∃ a b c d, l = [a, b, c, d] := by
  match l, h with
  | [a, b, c, d], _ => exact ⟨a, b, c, d, rfl⟩
/-- the parts of a struct -/
theorem trod_parts {H : Type} {enc : TypeId × Value → H} {P : Program} {W : World} {base : Nat} {sp : Nat → Bool} {held : Bool} {fuel : Nat} {t : TypeId} {fs : Array Field} {cs : List Value} {x : DataW H × List MemPlace}
    (ht : P.underlying t = some (.struct fs)) (h : DataW.trod enc P W base sp held fuel t cs = some x) :
    cs.length = P.cellsOf t ∧ ∀ (i : Nat) (f : Field), fs[i]? = some f → ∃ n y, DataW.trod enc P W base sp held n f.type ((cs.drop f.offset).take (P.cellsOf f.type)) = some y := by
  obtain ⟨xs, n, _, _, h1, h2, h3⟩ := DataW.trod_struct ht h
  refine ⟨h1, fun i f hf => ?_⟩
  have hi : i < fs.size := by
    rcases Nat.lt_or_ge i fs.size with h | h
    · exact h
    · rw [Array.getElem?_eq_none h] at hf; cases hf
  exact ⟨n, _, (h3 i f hf).trans (List.getElem?_eq_getElem (by omega))⟩
section
variable {H : Type} {enc : TypeId × Value → H} {P : Program} {W W' : World}
theorem kept_below (hk : Kept W (fun _ => False) W') : Below W.heap.size W W' := ⟨hk.os, hk.tape, hk.output, hk.size, fun k h => hk.old k h id⟩
theorem below_kept (hk : Kept W (fun _ => False) W') (may : MemPlace → Prop) : W.keptBut W' may := by
  refine ⟨hk.os, hk.output, fun i hi => ?_⟩
  rw [hk.old i hi id]
  cases h : W.heap[i]? with
  | none => trivial
  | some o => cases o <;> simp
theorem all_stays (hl : laidOutB P = true) (hb : Below W.heap.size W W') : ∀ {ts : List TypeId} {vs : List Value} {ds : List (DataW H)} {ps : List MemPlace}, (∀ t ∈ ts, P.readableRec t = true ∧ t < P.types.size) →
    DataW.TrodAll enc P W 0 (fun _ => true) true ts vs ds ps → (∀ p ∈ ps, p.block < W.heap.size) → DataW.TrodAll enc P W' 0 (fun b => decide (b < W.heap.size)) true ts vs ds ps
  | [], [], [], _, _, h, _ => h
  | _ :: _, _ :: _, _ :: _, _, ht, ⟨p, q, h1, h2, e⟩, hp => by
    subst e
    refine ⟨p, q, Below.trod hl (ht _ (by simp)).1 (ht _ (by simp)).2 h1 hb (fun x hx => hp x (by simp [hx])), all_stays hl hb (fun t h => ht t (by simp [h])) h2 (fun x hx => hp x (by simp [hx])), rfl⟩
theorem post_true {f : Func} {s : ChangeSpec} {apart fresh handsOn : Bool} {args : Array Value} {ds gs : List (DataW H)} {before : List MemPlace} {tb : TypeId}
    (hW : DataW.Whole enc P f.params.toList s.vars apart W args.toList ds gs before) (hv : s.vars = []) (hk : Kept W (fun _ => False) W') (hl : laidOutB P = true)
    (hp : ∀ t ∈ f.params.toList, P.readableRec t = true ∧ t < P.types.size) (hr : f.resultTypes = #[tb]) (hb : P.underlying tb = some .bool)
    (hf : ∀ ds : List (DataW H), s.fn H ds = { results := [.lit (.bool true)], args := ds } ∨ ds.length ≠ f.params.size) (hd : ds.length = f.params.size) : s.post enc P f apart fresh handsOn false W args (.bool true) W' := by
  have hW' := hW
  obtain ⟨p, q, hA, hV, rfl, _, _⟩ := hW
  rw [hv] at hV
  obtain ⟨rfl, rfl⟩ : gs = [] ∧ q = [] := by
    cases gs with
    | nil => exact ⟨rfl, hV⟩
    | cons g r => exact absurd hV (by intro h; cases h)
  have e1 : s.fn H (ds ++ []) = { results := [.lit (.bool true)], args := ds } := by
    rw [List.append_nil]
    rcases hf ds with h | h
    · exact h
    · exact absurd hd h
  have hlt : ∀ x ∈ p, x.block < W.heap.size := fun x hx => hW'.lt x (by simp [hx])
  refine ⟨ds, [], _, [], p, [], hW', ?_, ?_, ?_, below_kept hk _, fun h => by cases h⟩
  · rw [e1, hr]
    exact trodAll_mk1 (shut_bool hb true)
  · rw [e1]
    exact all_stays hl (kept_below hk) hp hA hlt
  · rw [e1, hv]
    rfl
theorem trodAll_len : ∀ {ts : List TypeId} {vs : List Value} {ds : List (DataW H)} {ps : List MemPlace} {base : Nat} {sp : Nat → Bool} {held : Bool}, DataW.TrodAll enc P W base sp held ts vs ds ps → ds.length = ts.length
  | [], [], [], _, _, _, _, _ => rfl
  | _ :: _, _ :: _, _ :: _, _, _, _, _, ⟨_, _, _, h2, _⟩ => by simp [trodAll_len h2]
/-- a law that answers true and lets all stand: its row -/
theorem lift_law {C : Checked} {os : Os} {f : FuncId} {fn : Func} {s : ChangeSpec} {apart fresh handsOn : Bool} {laid : List (String × DataW Unit)} {tb : TypeId}
    (own : ownKnob C.prog.godebug = none) (started : os.Started) (noInit : C.prog.inits.idxOf? f = none) (hfn : C.prog.funcs[f]? = some fn)
    (witness : ∃ (w : World) (tape : Tape) (i : Input), w.os = os ∧ (w.forCall tape i).Shaped C.prog ∧ i.vars = [] ∧ Input.okWide C.prog (w.forCall tape i) .any w.heap.size f i ∧
      ((s.pre enc C.prog fn [] apart (w.forCall tape i).memory i.args ∧ laidMetH C.prog laid (w.forCall tape i).memory) ∧ sizedMet enc C.prog fn (OpenSpec.ofChange s) apart (w.forCall tape i).memory i.args) ∧ ({} : Assume).holds C.prog (lone (Frame.enter C.prog f i.args .normal) [] (w.forCall tape i)))
    (hv : s.vars = []) (hl : laidOutB C.prog = true) (hp : ∀ t ∈ fn.params.toList, C.prog.readableRec t = true ∧ t < C.prog.types.size) (hr : fn.resultTypes = #[tb]) (hb : C.prog.underlying tb = some .bool)
    (hf : ∀ ds : List (DataW H), s.fn H ds = { results := [.lit (.bool true)], args := ds } ∨ ds.length ≠ fn.params.size)
    (contract : ∀ (W : World) (base : Nat) (args : Array Value) (ds : List (DataW H)) (p : List MemPlace),
      (∀ (j : Nat) t v, fn.params[j]? = some t → args[j]? = some v → Value.okWide C.prog W .any base t v) →
      DataW.TrodAll enc C.prog W 0 (fun _ => true) true fn.params.toList args.toList ds p → laidMetH C.prog laid W →
      Ret C.prog f args W fun v w' => v = .bool true ∧ Kept W (fun _ => False) w') :
    ReturnsInHanded {} C os f .any (fun w args => (s.pre enc C.prog fn [] apart w args ∧ laidMetH C.prog laid w) ∧ sizedMet enc C.prog fn (OpenSpec.ofChange s) apart w args)
      (s.post enc C.prog fn apart fresh handsOn false) := by
  refine returnsInHanded_of_change_and (C := C) (X := fun w _ => laidMetH C.prog laid w) (fun _ _ _ hh h => h.of_heap hh) own started noInit hfn witness ?_
  intro W base args ds gs before hval hW _ _ hL _
  have hW0 := hW
  obtain ⟨p, q, hA, _, _, _, _⟩ := hW
  refine Calls.mono (contract W base args ds p hval hA hL) ?_
  rintro e w' ⟨v, rfl, rfl, hk⟩
  exact ⟨_, rfl, post_true hW0 hv hk hl hp hr hb hf (by have := trodAll_len hA; simpa using this)⟩
end
/-- the state in which a call begins -/
theorem St.begin {G : World → Prop} {W : World} (hG : ∀ w, Kept W (fun _ => False) w → G w) : St (G := G) ⟨W, fun _ => False, hG⟩ (whp W) [] W :=
  ⟨⟨rfl, rfl, rfl, Nat.le_refl _, fun _ _ _ => rfl⟩, fun _ _ h => h, fun _ => none, fun _ => rfl, fun _ _ h => (by cases h), fun _ => .inr rfl, fun _ _ h => (by cases h)⟩
theorem kept_var {P : Program} {W W' : World} {n : String} {cs : Array Value} (hk : Kept W (fun _ => False) W') (h : W.var? P n = some cs) : W'.var? P n = some cs := by
  unfold World.var? at h ⊢
  cases hg : P.globalNamed n with
  | none => rw [hg] at h; cases h
  | some g =>
    rw [hg] at h
    simp only [Option.bind_some] at h ⊢
    have hl : g < W.heap.size := by
      rcases Nat.lt_or_ge g W.heap.size with hl | hl
      · exact hl
      · rw [Array.getElem?_eq_none hl] at h; cases h
    rw [hk.old g hl id]; exact h
theorem kept_cell {W W' : World} {a : Addr} {v : Value} (hk : Kept W (fun _ => False) W') (h : W.cell? a = some v) : W'.cell? a = some v := by
  have hl := World.block_lt_of_cell? W a h
  unfold World.cell? at h ⊢
  rw [hk.old _ hl id]; exact h
def cellsOfData {H : Type} (k : IntKind) : DataW H → Array Value
  | .agg l => (l.map fun | .lit (.int _ n) => Value.int k n | _ => Value.int k 0).toArray
  | _ => #[]
/-- from a contract that gives true -/
theorem PureC.begins {G : World → Prop} {P : Program} {f : FuncId} {pre : Hp → Prop} {args : List Value} {v : Value} (k : PureC G P f pre args v) {W : World} (hG : ∀ w, Kept W (fun _ => False) w → G w) (hp : pre (whp W)) :
    Ret P f args.toArray W fun v' w' => v' = v ∧ Kept W (fun _ => False) w' :=
  (k _ _ _ _ hp (St.begin hG)).mono fun _ _ ⟨h, hS⟩ => ⟨h, hS.keep⟩
section
variable {H : Type} {enc : TypeId × Value → H} {P : Program} {W : World} {base : Nat} {sp : Nat → Bool} {held : Bool} {t : TypeId} {v : Value} {d : DataW H} {p : List MemPlace} {r : Reach} {b0 : Nat}
theorem open_str (ht : P.underlying t = some .string) (hv : Value.okWide P W r b0 t v) (h : DataW.Trod enc P W base sp held t v d p) : ∃ s : Str, v = .string (B s) ∧ s.length ≤ maxLen := by
  obtain ⟨s, rfl, _, _, hs⟩ := Go.ChangeMaps.open_string ht hv h
  exact ⟨s.data.toList, by rw [B_of], by rw [ByteArray.size] at hs; simpa using hs⟩
theorem open_in {k : IntKind} (ht : P.underlying t = some (.int k)) (hv : Value.okWide P W r b0 t v) (h : DataW.Trod enc P W base sp held t v d p) : ∃ n : Int, v = .int k n ∧ (Lit.int k n).wf = true := by
  obtain ⟨n, rfl, _, _, hw⟩ := open_int ht hv h
  exact ⟨n, rfl, hw⟩
theorem open_bo (ht : P.underlying t = some .bool) (hv : Value.okWide P W r b0 t v) (h : DataW.Trod enc P W base sp held t v d p) : ∃ b : Bool, v = .bool b := by
  obtain ⟨b, rfl, _⟩ := open_bool ht hv h
  exact ⟨b, rfl⟩
theorem open_sl {α : Type} {R : Rp α} {φ : List α → Prop} {e : TypeId} (ht : P.underlying t = some (.slice e)) (ho : Opens P t (Rsl R) φ) (hv : Value.okWide P W r b0 t v) (h : DataW.Trod enc P W base sp held t v d p) :
    ∃ (xs : List α) (a : Option Addr) (c : Nat), v = .slice a xs.length c ∧ Sl R (whp W) xs a c ∧ φ xs := by
  obtain ⟨a0, len, cap, rfl⟩ := okWide_slice ht hv
  obtain ⟨fuel, hf⟩ := h
  obtain ⟨xs, ⟨a, c, h1, h2⟩, h3⟩ := ho.2 _ _ _ _ _ _ _ _ _ hf
  refine ⟨xs, a, c, ?_, h2, h3⟩
  have : [Value.slice a0 len cap] = [.slice a xs.length c] := h1
  simpa using this
end
end Go.Eng
