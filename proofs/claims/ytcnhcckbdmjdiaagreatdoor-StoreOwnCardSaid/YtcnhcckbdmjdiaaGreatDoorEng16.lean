/- Maps of one's own, of any plain keys; chunks moved and let go. No condition. -/
import Derived.Test.YtcnhcckbdmjdiaaGreatDoorEng15
set_option linter.all false
set_option linter.unusedSimpArgs false
set_option linter.unusedVariables false
namespace Go.Eng
open Go Go.MapKept
/-! ### chunks -/
section
variable {G : World → Prop} {Γ : Ctx G} {h : Hp} {L : List HProp} {w : World}
theorem Sats.sub {L : List HProp} : ∀ {i : Nat} {g : Hp}, Sats L g → ∃ g', Sats (L.eraseIdx i) g' ∧ ∀ b o, g' b = some o → g b = some o := by
  induction L with
  | nil => intro i g h; exact ⟨g, h, fun _ _ e => e⟩
  | cons B L ih =>
    intro i g h
    obtain ⟨ga, gb, ha, hb, hd, hu⟩ := h
    cases i with
    | zero =>
      refine ⟨gb, hb, fun b o e => ?_⟩
      rw [hu b]
      rcases hd b with h | h
      · rw [h, e]; rfl
      · rw [h] at e; cases e
    | succ i =>
      obtain ⟨g', h1, h2⟩ := ih (i := i) hb
      have hd' : Disj ga g' := fun b => by
        rcases hd b with h | h
        · exact .inl h
        · right
          cases hg : g' b with
          | none => rfl
          | some o => rw [h2 b o hg] at h; cases h
      refine ⟨fun b => (ga b).or (g' b), ⟨ga, g', ha, h1, hd', fun _ => rfl⟩, fun b o e => ?_⟩
      rw [hu b]
      simp only at e
      cases hg : ga b with
      | none => rw [hg] at e; simp only [Option.none_or] at e ⊢; exact h2 b o e
      | some o1 => rw [hg] at e; simp only [Option.some_or] at e ⊢; exact e
/-- a chunk is let go -/
theorem St.remove (hS : St Γ h L w) (i : Nat) : St Γ h (L.eraseIdx i) w := by
  obtain ⟨g, h1, h2, h3, h4⟩ := hS.ex
  obtain ⟨g', k1, k2⟩ := Sats.sub (i := i) h1
  refine ⟨hS.keep, hS.hin, g', k1, fun b o hb => h2 b o (k2 b o hb), fun b => ?_, fun b o hb => h4 b o (k2 b o hb)⟩
  rcases h3 b with h | h
  · exact .inl h
  · right
    cases hg : g' b with
    | none => rfl
    | some o => rw [k2 b o hg] at h; cases h
theorem Sats.move : ∀ {L : List HProp} {i : Nat} {A : HProp} {g : Hp}, L[i]? = some A → Sats L g → Sats (A :: L.eraseIdx i) g
  | [], _, _, _, hi, _ => by simp at hi
  | B :: L, 0, A, g, hi, hs => by simp at hi; subst hi; exact hs
  | B :: L, i + 1, A, g, hi, hs => by
    simp at hi
    obtain ⟨ga, gb, ha, hb, hd, hu⟩ := hs
    obtain ⟨g1, g2, k1, k2, k3, k4⟩ := Sats.move hi hb
    have hd1 : Disj ga g1 := fun b => by
      rcases hd b with h | h
      · exact .inl h
      · right; rw [k4 b] at h; exact (Option.or_eq_none_iff.1 h).1
    have hd2 : Disj ga g2 := fun b => by
      rcases hd b with h | h
      · exact .inl h
      · right; rw [k4 b] at h; exact (Option.or_eq_none_iff.1 h).2
    refine ⟨g1, fun b => (ga b).or (g2 b), k1, ⟨ga, g2, ha, k2, hd2, fun _ => rfl⟩, fun b => ?_, fun b => ?_⟩
    · rcases hd1 b with h | h
      · rcases k3 b with h' | h'
        · exact .inl h'
        · right; simp [h, h']
      · exact .inl h
    · rw [hu b, k4 b]
      rcases hd1 b with h | h
      · simp [h]
      · simp [h]
/-- a chunk is put ahead of the others -/
theorem St.move {i : Nat} {A : HProp} (hS : St Γ h L w) (hi : L[i]? = some A) : St Γ h (A :: L.eraseIdx i) w := hS.sats fun _ => Sats.move hi
end
/-! ### maps -/
/-- how keys and values stand in a map -/
structure MapK (κ α : Type) where
  desc : TypeDesc
  kv : κ → Value
  vv : α → Value
  inj : ∀ a b, kv a = kv b → a = b
  isKey : ∀ k, IsKey desc (kv k)
structure MapG {κ α : Type} (M : MapK κ α) (es : Array MapEntry) (f : κ → Option α) (n : Nat) : Prop where
  key : ∀ x ∈ es.toList, ∃ k, x.key = M.kv k
  nodup : (es.toList.map (·.key)).Nodup
  val : ∀ x ∈ es.toList, ∀ k, x.key = M.kv k → ∃ a, f k = some a ∧ x.val = M.vv a
  non : ∀ k, (∀ x ∈ es.toList, x.key ≠ M.kv k) → f k = none
  size : es.size = n
/-- a map that is one's own -/
def mpG {κ α : Type} (M : MapK κ α) (b : Nat) (f : κ → Option α) (n : Nat) : HProp := fun g => ∃ es clock, blk b (.map es clock) g ∧ MapG M es f n
def fputo {κ α : Type} [DecidableEq κ] (f : κ → Option α) (k : κ) (v : α) : κ → Option α := fun x => if x = k then some v else f x
theorem fputo_same {κ α : Type} [DecidableEq κ] (f : κ → Option α) (k : κ) (v : α) : fputo f k v k = some v := if_pos rfl
theorem fputo_ne {κ α : Type} [DecidableEq κ] (f : κ → Option α) {k x : κ} (v : α) (h : x ≠ k) : fputo f k v x = f x := if_neg h
section
variable {κ α : Type} [DecidableEq κ] {M : MapK κ α}
theorem MapG.nil : MapG M #[] (fun _ => none) 0 := ⟨by simp, by simp, by simp, fun _ _ => rfl, rfl⟩
theorem MapG.isKey {es : Array MapEntry} {f : κ → Option α} {n : Nat} (h : MapG M es f n) : ∀ x ∈ es.toList, IsKey M.desc x.key := fun x hx => by
  obtain ⟨k, hk⟩ := h.key x hx; rw [hk]; exact M.isKey k
theorem MapG.push {es : Array MapEntry} {f : κ → Option α} {n : Nat} (h : MapG M es f n) {k : κ} (hk : ∀ x ∈ es.toList, x.key ≠ M.kv k) (v : α) (clock : Nat) :
    MapG M (es.push { key := M.kv k, val := M.vv v, born := clock }) (fputo f k v) (n + 1) := by
  refine ⟨?_, ?_, ?_, ?_, by rw [Array.size_push, h.size]⟩
  · intro x hx
    rw [Array.toList_push, List.mem_append, List.mem_singleton] at hx
    rcases hx with hx | rfl
    · exact h.key x hx
    · exact ⟨k, rfl⟩
  · rw [Array.toList_push, List.map_append, List.nodup_append]
    refine ⟨h.nodup, by simp, ?_⟩
    intro a ha c hc
    obtain ⟨x, hx, rfl⟩ := List.mem_map.1 ha
    simp only [List.map_cons, List.map_nil, List.mem_singleton] at hc
    subst hc
    exact hk x hx
  · intro x hx q hq
    rw [Array.toList_push, List.mem_append, List.mem_singleton] at hx
    unfold fputo
    rcases hx with hx | rfl
    · have : q ≠ k := fun e => hk x hx (by rw [hq, e])
      rw [if_neg this]; exact h.val x hx q hq
    · have : q = k := (M.inj _ _ hq).symm
      rw [if_pos this]; exact ⟨v, rfl, rfl⟩
  · intro q hq
    have h1 : q ≠ k := fun e => hq { key := M.kv k, val := M.vv v, born := clock } (by simp) (by rw [e])
    unfold fputo
    rw [if_neg h1]
    exact h.non q fun x hx => hq x (by rw [Array.toList_push]; exact List.mem_append_left _ hx)
theorem MapG.modify {es : Array MapEntry} {f : κ → Option α} {n : Nat} (h : MapG M es f n) {k : κ} {j : Nat} {e : MapEntry} (he : es.toList[j]? = some e) (hk : e.key = M.kv k) (v : α) :
    MapG M (es.modify j fun e => { e with key := M.kv k, val := M.vv v }) (fputo f k v) n := by
  have hl : (es.modify j fun e => { e with key := M.kv k, val := M.vv v }).toList = es.toList.set j { e with key := M.kv k, val := M.vv v } := by
    apply List.ext_getElem?
    intro i
    rw [Array.getElem?_toList, Array.getElem?_modify, List.getElem?_set]
    rw [Array.getElem?_toList] at he
    by_cases hij : j = i
    · subst hij
      have hlt : j < es.size := (Array.getElem?_eq_some_iff.1 he).1
      have he' := (Array.getElem?_eq_some_iff.1 he).2
      simp [hlt, he']
    · simp [hij]
  have hjl : j < es.toList.length := by
    rcases Nat.lt_or_ge j es.toList.length with hh | hh
    · exact hh
    · rw [List.getElem?_eq_none hh] at he; cases he
  have hkeys : (es.modify j fun e => { e with key := M.kv k, val := M.vv v }).toList.map (·.key) = es.toList.map (·.key) := by
    rw [hl, List.map_set]
    apply List.ext_getElem?
    intro i
    rw [List.getElem?_set]
    by_cases hij : j = i
    · subst hij
      rw [if_pos rfl, if_pos (by rw [List.length_map]; exact hjl), List.getElem?_map, he, ← hk]; rfl
    · rw [if_neg hij]
  have hmem : ∀ x ∈ (es.modify j fun e => { e with key := M.kv k, val := M.vv v }).toList, (x.key = M.kv k ∧ x.val = M.vv v) ∨ (x ∈ es.toList ∧ x.key ≠ M.kv k) := by
    intro x hx
    rw [hl] at hx
    obtain ⟨i, hi⟩ := List.mem_iff_getElem?.1 hx
    rw [List.getElem?_set] at hi
    by_cases hij : j = i
    · subst hij
      rw [if_pos rfl, if_pos hjl] at hi
      injection hi with hi; subst hi; exact .inl ⟨rfl, rfl⟩
    · rw [if_neg hij] at hi
      refine .inr ⟨List.mem_of_getElem? hi, fun hxk => hij ?_⟩
      have hil : i < es.toList.length := by
        rcases Nat.lt_or_ge i es.toList.length with hh | hh
        · exact hh
        · rw [List.getElem?_eq_none hh] at hi; cases hi
      have hn := List.pairwise_iff_getElem.1 h.nodup
      have hj' : (es.toList.map (·.key))[j]'(by rw [List.length_map]; exact hjl) = M.kv k := by
        rw [List.getElem_map]; rw [List.getElem?_eq_getElem hjl] at he; injection he with he; rw [he, hk]
      have hi' : (es.toList.map (·.key))[i]'(by rw [List.length_map]; exact hil) = M.kv k := by
        rw [List.getElem_map]; rw [List.getElem?_eq_getElem hil] at hi; injection hi with hi; rw [hi, hxk]
      rcases Nat.lt_trichotomy j i with h1 | h1 | h1
      · exact absurd (hj'.trans hi'.symm) (hn j i (by rw [List.length_map]; exact hjl) (by rw [List.length_map]; exact hil) h1)
      · exact h1
      · exact absurd (hi'.trans hj'.symm) (hn i j (by rw [List.length_map]; exact hil) (by rw [List.length_map]; exact hjl) h1)
  refine ⟨?_, by rw [hkeys]; exact h.nodup, ?_, ?_, by rw [Array.size_modify, h.size]⟩
  · intro x hx
    rcases hmem x hx with ⟨h1, _⟩ | ⟨h1, _⟩
    · exact ⟨k, h1⟩
    · exact h.key x h1
  · intro x hx q hq
    unfold fputo
    rcases hmem x hx with ⟨h1, h2⟩ | ⟨h1, h2⟩
    · have : q = k := M.inj _ _ (by rw [← hq, h1])
      rw [if_pos this]; exact ⟨v, rfl, h2⟩
    · have : q ≠ k := fun e => h2 (by rw [hq, e])
      rw [if_neg this]; exact h.val x h1 q hq
  · intro q hq
    have hin : ({ e with key := M.kv k, val := M.vv v } : MapEntry) ∈ (es.modify j fun e => { e with key := M.kv k, val := M.vv v }).toList := by
      rw [hl]; exact List.mem_iff_getElem?.2 ⟨j, by rw [List.getElem?_set, if_pos rfl, if_pos hjl]⟩
    have h1 : q ≠ k := fun e' => hq _ hin (by rw [e'])
    unfold fputo
    rw [if_neg h1]
    refine h.non q fun x hx hxq => ?_
    have : x.key ∈ (es.modify j fun e => { e with key := M.kv k, val := M.vv v }).toList.map (·.key) := by rw [hkeys]; exact List.mem_map.2 ⟨x, hx, rfl⟩
    obtain ⟨y, hy, hyx⟩ := List.mem_map.1 this
    exact hq y hy (by rw [hyx, hxq])
section
variable {P : Program} {ρ : Operand → Value} {w : World} {d : Option Nat} {ty : TypeId} {pos : String} {af : Array Edge} {g : Option (Nat × Bool)} {x y z : Operand} {t kt vt : TypeId} {zv : Value}
/-- what a lookup gives -/
def lookV (M : MapK κ α) (zv : Value) (f : κ → Option α) (k : κ) : Value := match f k with | some a => M.vv a | none => zv
theorem run_lookup_G {b : Nat} {es clock n} {f : κ → Option α} {k : κ} {ok : Bool} (ht : P.underlying t = some (.map kt vt)) (hkt : P.underlying kt = some M.desc) (hz : ∀ w, (zeroValue vt).run P w = .ok zv w)
    (hb : w.heap[b]? = some (.map es clock)) (hm : MapG M es f n) : (Instr.lookup t (.map (some b)) (M.kv k) ok).run P w = .ok (if ok then .tuple #[lookV M zv f k, .bool (f k).isSome] else lookV M zv f k) w := by
  have hk : IsKey M.desc (M.kv k) := M.isKey k
  have hck := run_checkKey (P := P) (w := w) hkt hk es.isEmpty 9999
  rcases findNow_spec hk es.toList 0 hm.isKey with ⟨h1, h2⟩ | ⟨j, e, h1, h2, h3⟩
  · have hf := run_findKey (P := P) (w := w) hkt h1
    have hn := hm.non k h2
    simp [Instr.lookup, run_underlying ht, MapKept.run_getObj_map hb, hck, hf, hz, Result.andThen, lookV, hn]
  · have hf := run_findKey (P := P) (w := w) hkt h1
    obtain ⟨a, ha, hv⟩ := hm.val e (List.mem_of_getElem? h2) k h3
    simp [Instr.lookup, run_underlying ht, MapKept.run_getObj_map hb, hck, hf, Result.andThen, lookV, ha, hv]
theorem run_mapUpdate_G {b : Nat} {es : Array MapEntry} {clock n} {f : κ → Option α} {k : κ} {v : α} (ht : P.underlying t = some (.map kt vt)) (hkt : P.underlying kt = some M.desc)
    (hb : w.heap[b]? = some (.map es clock)) (hm : MapG M es f n) : ∃ es' clock', (Instr.mapUpdate t (.map (some b)) (M.kv k) (M.vv v)).run P w = .ok () { w with heap := w.heap.setIfInBounds b (.map es' clock') } ∧ MapG M es' (fputo f k v) (if f k = none then n + 1 else n) := by
  have hk : IsKey M.desc (M.kv k) := M.isKey k
  have hck := run_checkKey (P := P) (w := w) hkt hk false 9999
  rcases findNow_spec hk es.toList 0 hm.isKey with ⟨h1, h2⟩ | ⟨j, e, h1, h2, h3⟩
  · have hf := run_findKey (P := P) (w := w) hkt h1
    refine ⟨_, clock + 1, ?_, by rw [if_pos (hm.non k h2)]; exact hm.push h2 v clock⟩
    simp [Instr.mapUpdate, run_underlying ht, MapKept.run_getObj_map hb, hck, hf, MapKept.run_setObj_map _ hb, Result.andThen]
  · have hf := run_findKey (P := P) (w := w) hkt h1
    rw [Nat.zero_add] at hf
    have hkk := run_keyThatStays (P := P) (w := w) hk
    have h2' : es[j]? = some e := by rw [← Array.getElem?_toList]; exact h2
    obtain ⟨a, ha, _⟩ := hm.val e (List.mem_of_getElem? h2) k h3
    refine ⟨_, clock, ?_, by rw [if_neg (by rw [ha]; simp)]; exact hm.modify h2 h3 v⟩
    simp [Instr.mapUpdate, run_underlying ht, MapKept.run_getObj_map hb, hck, hf, h2', h3, hkk, MapKept.run_setObj_map _ hb, Result.andThen]
theorem R_lenMap {b : Nat} {es : Array MapEntry} {clock n : Nat} {f : κ → Option α} (hx : ρ x = .map (some b)) (ht : P.underlying t = some (.map kt vt)) (hb : w.heap[b]? = some (.map es clock)) (hm : MapG M es f n) :
    (execOp ρ ⟨d, .call ⟨.builtin .len, [x].toArray, [t].toArray⟩, ty, pos, af, g⟩).run P w = .ok (.value (.int .i64 (n : Nat))) w := by
  simp [execOp, resolve, invoke, builtin, Builtin.len_, hx, run_underlying ht, goInt, MapKept.run_getObj_map hb, Result.andThen, hm.size]
theorem R_lookupG {b : Nat} {es clock n} {f : κ → Option α} {k : κ} (hx : ρ x = .map (some b)) (hy : ρ y = M.kv k) (ht : P.underlying t = some (.map kt vt)) (hkt : P.underlying kt = some M.desc) (hz : ∀ w, (zeroValue vt).run P w = .ok zv w)
    (hb : w.heap[b]? = some (.map es clock)) (hm : MapG M es f n) {v : Value} (hv : lookV M zv f k = v) : (execOp ρ ⟨d, .lookup t x y false, ty, pos, af, g⟩).run P w = .ok (.value v) w := by
  subst hv
  simp [execOp, hx, hy, run_lookup_G ht hkt hz hb hm]
theorem R_lookupOk {b : Nat} {es clock n} {f : κ → Option α} {k : κ} (hx : ρ x = .map (some b)) (hy : ρ y = M.kv k) (ht : P.underlying t = some (.map kt vt)) (hkt : P.underlying kt = some M.desc) (hz : ∀ w, (zeroValue vt).run P w = .ok zv w)
    (hb : w.heap[b]? = some (.map es clock)) (hm : MapG M es f n) {v : Value} (hv : lookV M zv f k = v) : (execOp ρ ⟨d, .lookup t x y true, ty, pos, af, g⟩).run P w = .ok (.value (.tuple #[v, .bool (f k).isSome])) w := by
  subst hv
  simp [execOp, hx, hy, run_lookup_G ht hkt hz hb hm]
end
section
variable {G : World → Prop} {Γ : Ctx G} {h : Hp} {L : List HProp} {P : Program} {n : Nat} {ds : List Deferred} {all rest : List Oper} {Q : Qr} {r : Nat → Value} {w : World}
  {d : Nat} {ty : TypeId} {pos : String} {af : Array Edge} {x y z : Operand} {t kt vt : TypeId}
/-- what a map's chunk says -/
theorem St.hasMap {i b m : Nat} {f : κ → Option α} (hS : St Γ h L w) (hi : L[i]? = some (mpG M b f m)) : ∃ es clock, w.heap[b]? = some (.map es clock) ∧ MapG M es f m := by
  obtain ⟨g1, ⟨es, clock, k1, k2⟩, k3, _⟩ := hS.look hi
  exact ⟨es, clock, k3 _ _ (by rw [k1 b, if_pos rfl]), k2⟩
theorem S_makeMapG (M : MapK κ α) (hS : St Γ h L w) (k : ∀ w', St Γ h (mpG M w.heap.size (fun _ => none) 0 :: L) w' → WL P n ds all rest Q (upd n r d (.map (some w.heap.size))) w') :
    WL P n ds all (⟨some d, .makeMap t none, ty, pos, af, none⟩ :: rest) Q r w := by
  refine WL.val1 (v := .map (some w.heap.size)) (w' := w.alloc (.map #[] 0)) ?_ (k _ ?_)
  · simp [execOp, Instr.makeMap]
  · exact (hS.alloc (.map #[] 0)).conv (i := 0) rfl fun g hg => ⟨_, _, hg, MapG.nil⟩
theorem S_mapUpdateG {i b m : Nat} {f : κ → Option α} {k : κ} {v : α} {L' : List HProp} (hS : St Γ h L w) (hi : L[i]? = some (mpG M b f m)) (hx : ev r x = .map (some b)) (hy : ev r y = M.kv k) (hz : ev r z = M.vv v) (ht : P.underlying t = some (.map kt vt)) (hkt : P.underlying kt = some M.desc)
    (hL : L.set i (mpG M b (fputo f k v) (if f k = none then m + 1 else m)) = L') (kk : ∀ w', St Γ h L' w' → WL P n ds all rest Q r w') :
    WL P n ds all (⟨none, .mapUpdate t x y z, ty, pos, af, none⟩ :: rest) Q r w := by
  subst hL
  obtain ⟨es, clock, hb, k2⟩ := hS.hasMap hi
  obtain ⟨es', clock', hr, hm⟩ := run_mapUpdate_G (P := P) (w := w) (k := k) (v := v) ht hkt hb k2
  refine WL.none (w' := { w with heap := w.heap.setIfInBounds b (.map es' clock') }) ?_ (kk _ ?_)
  · simp [execOp, hx, hy, hz, hr]
  · refine hS.act hi fun g1 ⟨es1, clock1, q1, _⟩ hin _ => ⟨single b (.map es' clock'), ⟨es', clock', fun _ => rfl, hm⟩, ?_, ?_, ?_⟩
    · intro c o hc
      unfold single at hc
      split at hc
      · rename_i e1; subst e1; injection hc with hc; subst hc; exact (heap_set hb).1
      · cases hc
    · intro c o hc
      unfold single at hc
      split at hc
      · rename_i e1; subst e1; exact .inl ⟨_, by rw [q1 c, if_pos rfl]⟩
      · cases hc
    · refine ⟨rfl, rfl, rfl, by simp, fun c hc hn => (heap_set hb).2 c fun e1 => hn ?_⟩
      subst e1; exact ⟨_, by rw [q1 c, if_pos rfl]⟩
end
end
/-! ### calls that may panic -/
/-- it gives a value, or it panics -/
def RetX (P : Program) (f : FuncId) (args : Array Value) (w : World) (post : Value → World → Prop) (ppost : List PanicEntry → World → Prop) : Prop :=
  Calls P f args w fun e w' => match e with | .returned v => post v w' | .panicked c => ppost c w' | .outgrown => False
theorem Ret.toX {P : Program} {f : FuncId} {args : Array Value} {w : World} {post : Value → World → Prop} {ppost} (h : Ret P f args w post) : RetX P f args w post ppost :=
  Calls.mono h fun e w' ⟨v, he, hv⟩ => by subst he; exact hv
theorem WL.enterX {P : Program} {n : Nat} {ds : List Deferred} {all rest : List Oper} {Q : Qr} {r : Nat → Value} {w w' : World} {d op ty pos af f args} (hr : (execOp (ev r) ⟨d, op, ty, pos, af, Option.none⟩).run P w = .ok (.enter f args) w')
    (h : RetX P f args w' (fun v w'' => WL P n ds all rest Q (putd n r d v) w'') (fun c w'' => Q (.panic c) r w'')) : WL P n ds all (⟨d, op, ty, pos, af, Option.none⟩ :: rest) Q r w := by
  intro a ha
  refine wpList_plain rfl fun K hK => ?_
  unfold Oper.wp
  rw [ha.eval, hr, Oper.upon_enter]
  refine Calls.mono h fun e w'' he => ?_
  cases e with
  | returned v => exact hK _ _ (he _ (ha.putd d v))
  | panicked c => exact ⟨r, ha, he⟩
  | outgrown => exact he.elim
/-- the ends of a body that may panic -/
def qtopX (P : Program) (fn : Func) (n : Nat) (post : Value → World → Prop) (ppost : List PanicEntry → World → Prop) : Qr
  | .normal, r, w => ∃ v, Gives P fn n [] r w v ∧ post v w
  | .ret, r, w => ∃ v, Gives P fn n [] r w v ∧ post v w
  | .panic c, _, w => ppost c w
  | _, _, _ => False
theorem RetX.body {P f fn c args w post ppost n} (hf : P.funcs[f]? = some fn) (hb : fn.body = some c) (hm : fn.ntmps = n) (hn : args.length ≤ n)
    (h : WC P n [] c (qtopX P fn n post ppost) (nth args) w) : RetX P f args.toArray w post ppost := by
  subst hm
  refine calls_of_wp hf hb ?_
  have hfit : Fits fn.ntmps [] (nth args) { tmps := args.toArray ++ Array.replicate (fn.ntmps - args.toArray.size) undef, defers := [] } := by
    refine ⟨by simp; omega, fun i => ?_, rfl⟩
    rw [nth_eq]
    simp only [Array.getD_eq_getD_getElem?, List.getD_eq_getElem?_getD, Array.getElem?_append]
    split
    · simp
    · rename_i hi
      rw [List.getElem?_eq_none (by simpa using hi), Array.getElem?_replicate]
      split <;> rfl
  refine Code.wp_mono (fun e a w he => ?_) (h _ hfit)
  obtain ⟨r, h1, h2⟩ := he
  cases e with
  | normal => obtain ⟨v, hg, hv⟩ := h2; exact ⟨h1.defers, v, hg a h1, hv⟩
  | ret => obtain ⟨v, hg, hv⟩ := h2; exact ⟨h1.defers, v, hg a h1, hv⟩
  | exit _ => exact h2.elim
  | goto _ => exact h2.elim
  | panic c => exact ⟨h1.defers, h2⟩
  | outgrown => exact h2.elim
theorem topX_ret {P fn n post ppost r w} (v : Value) (hg : Gives P fn n [] r w v) (h : post v w) : qtopX P fn n post ppost .ret r w := ⟨v, hg, h⟩
theorem topX_normal {P fn n post ppost r w} (v : Value) (hg : Gives P fn n [] r w v) (h : post v w) : qtopX P fn n post ppost .normal r w := ⟨v, hg, h⟩
theorem topX_panic {P fn n post ppost r w c} (h : ppost c w) : qtopX P fn n post ppost (.panic c) r w := h
end Go.Eng
