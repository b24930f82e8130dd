/- A part of the proof engine: rules for steps of the machine over frames and memory. Each under the conditions that its own statement names. -/
import Derived.Test.YtcnhcckbdmjdiaaGreatDoorEng6
import Derived.KernelRfl
import Derived.Laws.IdiomStrings
set_option linter.all false
set_option linter.unusedSimpArgs false
set_option linter.unusedVariables false
namespace Go.Eng
open Go
section
variable {P : Program} {ρ : Operand → Value} {w : World} {d : Option Nat} {ty : TypeId} {pos : String} {af : Array Edge} {g : Option (Nat × Bool)} {x y c : Operand} {t e s : TypeId}
theorem R_fieldAddr {b off m fld : Nat} (hx : ρ x = .pointer (some ⟨b, off, none⟩)) (hk : ∀ w, (Instr.fieldAt s (.pointer (some ⟨b, off, none⟩)) fld).run P w = .ok (.pointer (some ⟨b, off + m, none⟩)) w) :
    (execOp ρ ⟨d, .fieldAddr s x fld, ty, pos, af, g⟩).run P w = .ok (.value (.pointer (some ⟨b, off + m, none⟩))) w := by
  simp [execOp, hx, hk]
theorem R_build {parts : List (Nat × Operand)} {vs : List (Nat × Value)} {v : Value} (hps : parts.map (fun p => (p.1, ρ p.2)) = vs) (hk : ∀ w, (Instr.build t vs.toArray).run P w = .ok v w) :
    (execOp ρ ⟨d, .build t parts.toArray, ty, pos, af, g⟩).run P w = .ok (.value v) w := by
  subst hps
  have e : (parts.toArray.map fun p => (p.1, ρ p.2)) = (parts.map fun p => (p.1, ρ p.2)).toArray := by simp
  have := hk w
  rw [← e] at this
  simp [execOp] at this ⊢
  simp [this]
theorem R_field {v u : Value} {fld : Nat} (hx : ρ x = v) (hk : ∀ w, (Instr.field t v fld).run P w = .ok u w) : (execOp ρ ⟨d, .field t x fld, ty, pos, af, g⟩).run P w = .ok (.value u) w := by
  simp [execOp, hx, hk]
theorem R_makeInterface {v : Value} (hx : ρ x = v) (hk : ∀ w, (Instr.makeInterface t v).run P w = .ok (.iface t v) w) : (execOp ρ ⟨d, .makeInterface t x, ty, pos, af, g⟩).run P w = .ok (.value (.iface t v)) w := by
  simp [execOp, hx, hk]
end
section
variable {G : World → Prop} {Γ : Ctx G} {h : Hp} {L : List HProp} {P : Program} {n : Nat} {ds : List Deferred} {all rest : List Oper} {Q : Qr} {r : Nat → Value} {w : World}
  {d : Nat} {ty : TypeId} {pos : String} {af : Array Edge} {x y : Operand} {t e : TypeId}
theorem R_buildSlice0 {ρ : Operand → Value} {dd : Option Nat} {g : Option (Nat × Bool)} {size : Nat} (hu : P.underlying t = some (.slice e)) (hs : (sizeOf e).run P w = .ok size w) :
    (execOp ρ ⟨dd, .buildSlice t 0 [].toArray, ty, pos, af, g⟩).run P w = .ok (.value (.slice (some ⟨w.heap.size, 0, none⟩) 0 0)) (w.alloc (.cells #[] e (0, 0))) := by
  have e0 : Array.map (fun _ => (default : Value)) (Array.range 0) = #[] := by apply Array.ext <;> simp
  simp [execOp, Instr.buildSlice, run_underlying hu, hs, Instr.fill, newRow, e0]
theorem S_buildSlice0 {α : Type} {R : Rp α} (hS : St Γ h L w) (hu : P.underlying t = some (.slice e)) (hs : ∀ w, (sizeOf e).run P w = .ok R.n w)
    (k : ∀ w', St Γ h (grow e R h [] (some ⟨w.heap.size, 0, none⟩) 0 :: L) w' → WL P n ds all rest Q (upd n r d (.slice (some ⟨w.heap.size, 0, none⟩) 0 0)) w') :
    WL P n ds all (⟨some d, .buildSlice t 0 [].toArray, ty, pos, af, none⟩ :: rest) Q r w := by
  refine WL.val1 (R_buildSlice0 hu (hs w)) (k _ ?_)
  exact (hS.alloc (.cells #[] e (0, 0))).growRow (i := 0) (l := []) (xs := []) rfl (show Flat R h [] [] from rfl) (Nat.zero_le _)
theorem S_buildSliceG {α : Type} {R : Rp α} {m : Nat} {parts : List (Nat × Operand)} {vs : List (Nat × Value)} {z : Value} {cells : List Value} {xs : List α} (hS : St Γ h L w) (hu : P.underlying t = some (.slice e)) (hs : ∀ w, (sizeOf e).run P w = .ok R.n w) (hz : ∀ w, (zeroValue e).run P w = .ok z w)
    (hbig : m * R.n ≤ 2 ^ 24) (hpos : m * R.n ≠ 0) (hps : parts.map (fun p => (p.1, ev r p.2)) = vs)
    (hf : Instr.fill (fun i => some (i * R.n, R.n)) ((Array.range (m * R.n)).map (z.cells[· % z.cells.size]!)) vs = some cells.toArray) (hflat : Flat R h xs cells) (hm : xs.length = m)
    (k : ∀ w', St Γ h (grow e R h xs (some ⟨w.heap.size, 0, none⟩) m :: L) w' → WL P n ds all rest Q (upd n r d (.slice (some ⟨w.heap.size, 0, none⟩) m m)) w') :
    WL P n ds all (⟨some d, .buildSlice t m parts.toArray, ty, pos, af, none⟩ :: rest) Q r w := by
  subst hm
  refine WL.val1 (R_buildSlice hu (hs w) (hz w) hbig hpos hps hf) (k _ ?_)
  refine (hS.alloc (.cells cells.toArray e (0, 0))).growRow (i := 0) (l := cells) rfl hflat ?_
  have hn : 0 < R.n := Nat.pos_of_ne_zero fun h0 => hpos (by rw [h0, Nat.mul_zero])
  have := Nat.le_mul_of_pos_right xs.length hn
  simp only [maxLen]; omega
theorem S_buildSliceC {α : Type} {R : Rp α} {m : Nat} {parts : List (Nat × Operand)} {vs : List (Nat × Value)} {z : Value} {cells : List Value} {xs : List α} (hS : St Γ h L w) (hu : P.underlying t = some (.slice e)) (hs : ∀ w, (sizeOf e).run P w = .ok R.n w) (hz : ∀ w, (zeroValue e).run P w = .ok z w)
    (hbig : m * R.n ≤ 2 ^ 24) (hpos : m * R.n ≠ 0) (hps : parts.map (fun p => (p.1, ev r p.2)) = vs)
    (hf : Instr.fill (fun i => some (i * R.n, R.n)) ((Array.range (m * R.n)).map (z.cells[· % z.cells.size]!)) vs = some cells.toArray) (hflat : Flat R h xs cells) (hm : xs.length = m)
    (k : ∀ h' b w', h.le h' → Sl R h' xs (some ⟨b, 0, none⟩) m → St Γ h' L w' → WL P n ds all rest Q (upd n r d (.slice (some ⟨b, 0, none⟩) m m)) w') :
    WL P n ds all (⟨some d, .buildSlice t m parts.toArray, ty, pos, af, none⟩ :: rest) Q r w := by
  subst hm
  obtain ⟨h', k1, k2, k3⟩ := hS.allocC (.cells cells.toArray e (0, 0))
  refine WL.val1 (R_buildSlice hu (hs w) (hz w) hbig hpos hps hf) (k h' _ _ k1 ?_ k3)
  exact Sl.of_flat (hflat.mono k1) k2 (by simp) _ (Nat.le_refl _)
end
theorem pmap1 {f : Operand → Value} {i : Nat} {a v} (h : f a = v) : [(i, a)].map (fun p => (p.1, f p.2)) = [(i, v)] := by rw [← h]; rfl
theorem pmap2 {f : Operand → Value} {i j : Nat} {a b v u} (h : f a = v) (k : f b = u) : [(i, a), (j, b)].map (fun p => (p.1, f p.2)) = [(i, v), (j, u)] := by rw [← h, ← k]; rfl
theorem pmap3 {f : Operand → Value} {i j l : Nat} {a b c v u x} (h : f a = v) (k : f b = u) (m : f c = x) : [(i, a), (j, b), (l, c)].map (fun p => (p.1, f p.2)) = [(i, v), (j, u), (l, x)] := by rw [← h, ← k, ← m]; rfl
theorem pmap4 {f : Operand → Value} {i j l o : Nat} {a b c d v u x y} (h : f a = v) (k : f b = u) (m : f c = x) (n : f d = y) : [(i, a), (j, b), (l, c), (o, d)].map (fun p => (p.1, f p.2)) = [(i, v), (j, u), (l, x), (o, y)] := by rw [← h, ← k, ← m, ← n]; rfl
theorem hmap1 {f : Operand → Value} {a v} (h : f a = v) : [a].map f = [v] := by rw [← h]; rfl
theorem hmap2 {f : Operand → Value} {a b v u} (h : f a = v) (k : f b = u) : [a, b].map f = [v, u] := by rw [← h, ← k]; rfl
theorem hmap3 {f : Operand → Value} {a b c v u x} (h : f a = v) (k : f b = u) (l : f c = x) : [a, b, c].map f = [v, u, x] := by rw [← h, ← k, ← l]; rfl
theorem hmap4 {f : Operand → Value} {a b c d v u x y} (h : f a = v) (k : f b = u) (l : f c = x) (m : f d = y) : [a, b, c, d].map f = [v, u, x, y] := by rw [← h, ← k, ← l, ← m]; rfl
/-! bytes -/
def Rby : Rp UInt8 := ⟨1, fun _ s cs => cs = [.int .u8 (s.toNat : Int)], fun _ _ _ h => by subst h; rfl, fun _ _ _ _ _ h => h, fun _ _ _ h => by subst h; rfl⟩
theorem Rby_of {e : Int} {h : Hp} (he : 0 ≤ e ∧ e ≤ 255) : Rby.rel h (UInt8.ofNat e.toNat) [.int .u8 e] := by
  show [Value.int .u8 e] = [Value.int .u8 ((UInt8.ofNat e.toNat).toNat : Int)]
  have : (UInt8.ofNat e.toNat).toNat = e.toNat := by rw [UInt8.toNat_ofNat']; omega
  rw [this]
  congr 2
  omega
section
variable {G : World → Prop} {Γ : Ctx G} {h : Hp} {L : List HProp} {P : Program} {w : World}
theorem R_b2s {ρ : Operand → Value} {d : Option Nat} {ty : TypeId} {pos : String} {af : Array Edge} {g : Option (Nat × Bool)} {x : Operand} {t t2 e : TypeId} {l : Str} {a : Option Addr} {c : Nat}
    (hS : St Γ h L w) (hs : Sl Rby h l a c) (hx : ρ x = .slice a l.length c) (ht : P.underlying t = some (.slice e)) (he : P.underlying e = some (.int .u8)) (h2 : P.underlying t2 = some .string) (hl : 0 < l.length) :
    (execOp ρ ⟨d, .convert t t2 x, ty, pos, af, g⟩).run P w = .ok (.value (.string (B l))) w := by
  obtain ⟨y, hy⟩ : ∃ y, l[0]? = some y := ⟨_, List.getElem?_eq_getElem hl⟩
  obtain ⟨b, o, cs, ha, _, _⟩ := hs.2 0 y hy
  subst ha
  have hc : ∀ j (hj : j < l.length), w.cell? ((⟨b, o, none⟩ : Addr).add j) = some (.int .u8 (l[j].toNat : Int)) := by
    intro j hj
    obtain ⟨b', o', cs', ha', hr', hat⟩ := hs.2 j l[j] (List.getElem?_eq_getElem hj)
    injection ha' with ha'
    injection ha' with hb' ho'
    subst hb'; subst ho'
    have : cs' = [.int .u8 (l[j].toNat : Int)] := hr'
    subst this
    have h3 := hat.cells hS 0 _ rfl
    have e1 : (Rby).n = 1 := rfl
    rw [e1, Nat.mul_one, add_lit, Nat.add_zero] at h3
    rw [add_lit]; exact h3
  have := run_convert_bytes_back (P := P) w t t2 e ⟨b, o, none⟩ c l ht he h2 hc
  simp [execOp, hx, this]
  rfl
end
/-! results that lie in memory -/
theorem loadVar1 {P : Program} {w : World} {t : TypeId} {b off : Nat} {arr : Array Value} {e fz v} (hb : w.heap[b]? = some (.cells arr e fz)) (ha : (isAgg t).run P w = .ok false w) (hv : arr[off]? = some v) : (loadVar t ⟨b, off, none⟩).run P w = .ok v w := by
  have h1 : w.cell? ⟨b, off, none⟩ = some v := by rw [cell_row hb, hv]
  simp [loadVar, ha, h1]
theorem loadVarA {P : Program} {w : World} {t : TypeId} {b off k : Nat} {arr : Array Value} {e fz} {cs : List Value} (hb : w.heap[b]? = some (.cells arr e fz)) (ha : (isAgg t).run P w = .ok true w) (hs : (sizeOf t).run P w = .ok k w)
    (hk : cs.length = k) (hv : ∀ j v, cs[j]? = some v → arr[off + j]? = some v) : (loadVar t ⟨b, off, none⟩).run P w = .ok (.agg cs.toArray) w := by
  subst hk
  have h1 := run_loadCells_list (P := P) w ⟨b, off, none⟩ cs (fun j v hj => by rw [add_lit, cell_row hb]; exact hv j v hj)
  simp [loadVar, ha, hs, h1]
def RV1 (P : Program) (w : World) (r : Nat → Value) : ResultVar → Value → Prop
  | .tmp t, v => r t = v
  | .cell a ty, v => ∃ b off, r a = .pointer (some ⟨b, off, none⟩) ∧ (loadVar ty ⟨b, off, none⟩).run P w = .ok v w
def RVs (P : Program) (w : World) (r : Nat → Value) : List ResultVar → List Value → Prop
  | [], [] => True
  | x :: xs, v :: vs => RV1 P w r x v ∧ RVs P w r xs vs
  | _, _ => False
def rvS (a : Act) : ResultVar → Sem Value
  | .tmp t => pure (a.tmps.getD t undef)
  | .cell b t => do loadVar t (← asAddr (a.tmps.getD b undef))
theorem RVs.run {P : Program} {w : World} {n : Nat} {ds : List Deferred} {r : Nat → Value} {a : Act} (ha : Fits n ds r a) : ∀ {rs vs}, RVs P w r rs vs → (rs.mapM (rvS a)).run P w = .ok vs w
  | [], [], _ => by simp
  | x :: xs, v :: vs, ⟨h1, h2⟩ => by
    have ih := RVs.run ha h2
    have hx : (rvS a x).run P w = .ok v w := by
      cases x with
      | tmp t =>
        have h1 : r t = v := h1
        show (pure (a.tmps.getD t undef) : Sem Value).run P w = _
        rw [ha.get, h1]
        rfl
      | cell b t =>
        obtain ⟨bl, off, h3, h4⟩ := h1
        have e1 : rvS a (.cell b t) = (do loadVar t (← asAddr (r b))) := by rw [← ha.get]; rfl
        rw [e1, h3]
        simpa [asAddr] using h4
    rw [List.mapM_cons]
    simp [hx, ih]
def packR : List Value → Value
  | [v] => v
  | vs => .tuple vs.toArray
theorem givesL {P fn n ds r w} {rs : List ResultVar} {vs : List Value} (h : fn.results = rs.toArray) (hv : RVs P w r rs vs) : Gives P fn n ds r w (packR vs) := fun a ha => by
  have h1 := RVs.run ha hv
  have h2 : (fn.results.mapM (rvS a)).run P w = .ok vs.toArray w := by
    rw [h, List.mapM_toArray]
    simp [h1]
  have h3 : results fn a.tmps = (fn.results.mapM (rvS a)).bind fun vs => pure (if h : vs.size = 1 then vs[0] else .tuple vs) := rfl
  rw [h3]
  have h4 := Sem.run_bind (P := P) (w := w) (x := fn.results.mapM (rvS a)) (f := fun vs => pure (if h : vs.size = 1 then vs[0] else .tuple vs))
  refine h4.trans ?_
  have h6 : ∀ us : Array Value, us = vs.toArray → (pure (if h : us.size = 1 then us[0] else .tuple us) : Sem Value).run P w = .ok (packR vs) w := by
    intro us hus
    subst hus
    match vs with
    | [] => simp [packR]
    | [v] => simp [packR]
    | v :: u :: vs => simp [packR]
  simp only [h2, Result.andThen_ok]
  exact h6 _ rfl
theorem givesL1 {P fn n ds r w} {rs : List ResultVar} {v : Value} {vs : List Value} (h : fn.results = rs.toArray) (hv : RVs P w r rs vs) (e : vs = [v]) : Gives P fn n ds r w v := by subst e; exact givesL h hv
theorem givesL2 {P fn n ds r w} {rs : List ResultVar} {v u : Value} {us vs : List Value} (h : fn.results = rs.toArray) (hv : RVs P w r rs vs) (e : vs = v :: u :: us) : Gives P fn n ds r w (.tuple (v :: u :: us).toArray) := by subst e; exact givesL h hv
end Go.Eng
