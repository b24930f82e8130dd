/- A part of the proof engine: rules for steps of the machine over frames and memory. Each under the conditions that its own statement names. -/
import Derived.Test.YtcnhcckbdmjdiaaGreatDoorEng10
import Derived.MapKept
set_option linter.all false
set_option linter.unusedSimpArgs false
set_option linter.unusedVariables false
namespace Go.Eng
open Go Go.MapKept
structure MapIs (es : Array MapEntry) (f : Str → Int) : Prop where
  key : ∀ x ∈ es.toList, IsKey .string x.key
  nodup : (es.toList.map (·.key)).Nodup
  val : ∀ k, ∀ x ∈ es.toList, x.key = .string (B k) → x.val = .int .i64 (f k)
  non : ∀ k, (∀ x ∈ es.toList, x.key ≠ .string (B k)) → f k = 0
/-- a map that is one's own -/
def mpI (b : Nat) (f : Str → Int) : HProp := fun g => ∃ es clock, blk b (.map es clock) g ∧ MapIs es f
theorem B_inj' {a c : Str} (h : B a = B c) : a = c := by rw [← B_toList a, h, B_toList]
def fput (f : Str → Int) (k : Str) (v : Int) : Str → Int := fun x => if x = k then v else f x
theorem fput_same (f : Str → Int) (k : Str) (v : Int) : fput f k v k = v := if_pos rfl
theorem fput_ne (f : Str → Int) {k x : Str} (v : Int) (h : x ≠ k) : fput f k v x = f x := if_neg h
theorem MapIs.nil : MapIs #[] (fun _ => 0) := ⟨by simp, by simp, by simp, fun _ _ => rfl⟩
theorem MapIs.push {es : Array MapEntry} {f : Str → Int} (h : MapIs es f) {k : Str} (hk : ∀ x ∈ es.toList, x.key ≠ .string (B k)) (v : Int) (clock : Nat) :
    MapIs (es.push { key := .string (B k), val := .int .i64 v, born := clock }) (fput f k v) := by
  refine ⟨?_, ?_, ?_, ?_⟩
  · intro x hx
    rw [Array.toList_push, List.mem_append, List.mem_singleton] at hx
    rcases hx with hx | rfl
    · exact h.key x hx
    · trivial
  · rw [Array.toList_push, List.map_append, List.nodup_append]
    refine ⟨h.nodup, by simp, ?_⟩
    intro a ha c hc
    obtain ⟨x, hx, rfl⟩ := List.mem_map.1 ha
    simp only [List.map_cons, List.map_nil, List.mem_singleton] at hc
    subst hc
    exact hk x hx
  · intro q x hx hq
    rw [Array.toList_push, List.mem_append, List.mem_singleton] at hx
    unfold fput
    rcases hx with hx | rfl
    · have : q ≠ k := fun e => hk x hx (by rw [hq, e])
      rw [if_neg this]; exact h.val q x hx hq
    · have : q = k := B_inj' (by simpa using hq.symm)
      rw [if_pos this]
  · intro q hq
    have h1 : q ≠ k := fun e => hq { key := .string (B k), val := .int .i64 v, born := clock } (by simp) (by rw [e])
    unfold fput
    rw [if_neg h1]
    exact h.non q fun x hx => hq x (by rw [Array.toList_push]; exact List.mem_append_left _ hx)
theorem MapIs.modify {es : Array MapEntry} {f : Str → Int} (h : MapIs es f) {k : Str} {j : Nat} {e : MapEntry} (he : es.toList[j]? = some e) (hk : e.key = .string (B k)) (v : Int) :
    MapIs (es.modify j fun e => { e with key := .string (B k), val := .int .i64 v }) (fput f k v) := by
  have hl : (es.modify j fun e => { e with key := .string (B k), val := .int .i64 v }).toList = es.toList.set j { e with key := .string (B k), val := .int .i64 v } := by
    apply List.ext_getElem?
    intro i
    rw [Array.getElem?_toList, Array.getElem?_modify, List.getElem?_set]
    rw [Array.getElem?_toList] at he
    by_cases hij : j = i
    · subst hij
      have hlt : j < es.size := (Array.getElem?_eq_some_iff.1 he).1
      have he' := (Array.getElem?_eq_some_iff.1 he).2
      simp [hlt, he']
    · simp [hij]
  have hkeys : (es.modify j fun e => { e with key := .string (B k), val := .int .i64 v }).toList.map (·.key) = es.toList.map (·.key) := by
    rw [hl, List.map_set]
    apply List.ext_getElem?
    intro i
    rw [List.getElem?_set]
    by_cases hij : j = i
    · subst hij
      have hlt : j < (es.toList.map (·.key)).length := by
        rw [List.length_map]
        rcases Nat.lt_or_ge j es.toList.length with hh | hh
        · exact hh
        · rw [List.getElem?_eq_none hh] at he; cases he
      rw [if_pos rfl, if_pos hlt, List.getElem?_map, he, ← hk]; rfl
    · rw [if_neg hij]
  have hjl : j < es.toList.length := by
    rcases Nat.lt_or_ge j es.toList.length with hh | hh
    · exact hh
    · rw [List.getElem?_eq_none hh] at he; cases he
  have hmem : ∀ x ∈ (es.modify j fun e => { e with key := .string (B k), val := .int .i64 v }).toList, (x.key = .string (B k) ∧ x.val = .int .i64 v) ∨ (x ∈ es.toList ∧ x.key ≠ .string (B k)) := by
    intro x hx
    rw [hl] at hx
    obtain ⟨i, hi⟩ := List.mem_iff_getElem?.1 hx
    rw [List.getElem?_set] at hi
    by_cases hij : j = i
    · subst hij
      rw [if_pos rfl, if_pos hjl] at hi
      injection hi with hi; subst hi; exact .inl ⟨rfl, rfl⟩
    · rw [if_neg hij] at hi
      refine .inr ⟨List.mem_of_getElem? hi, fun hxk => hij ?_⟩
      have hil : i < es.toList.length := by
        rcases Nat.lt_or_ge i es.toList.length with hh | hh
        · exact hh
        · rw [List.getElem?_eq_none hh] at hi; cases hi
      have hn := List.pairwise_iff_getElem.1 h.nodup
      have hj' : (es.toList.map (·.key))[j]'(by rw [List.length_map]; exact hjl) = .string (B k) := by
        rw [List.getElem_map]; rw [List.getElem?_eq_getElem hjl] at he; injection he with he; rw [he, hk]
      have hi' : (es.toList.map (·.key))[i]'(by rw [List.length_map]; exact hil) = .string (B k) := by
        rw [List.getElem_map]; rw [List.getElem?_eq_getElem hil] at hi; injection hi with hi; rw [hi, hxk]
      rcases Nat.lt_trichotomy j i with h1 | h1 | h1
      · exact absurd (hj'.trans hi'.symm) (hn j i (by rw [List.length_map]; exact hjl) (by rw [List.length_map]; exact hil) h1)
      · exact h1
      · exact absurd (hi'.trans hj'.symm) (hn i j (by rw [List.length_map]; exact hil) (by rw [List.length_map]; exact hjl) h1)
  refine ⟨?_, by rw [hkeys]; exact h.nodup, ?_, ?_⟩
  · intro x hx
    rcases hmem x hx with ⟨h1, _⟩ | ⟨h1, _⟩
    · rw [h1]; trivial
    · exact h.key x h1
  · intro q x hx hq
    unfold fput
    rcases hmem x hx with ⟨h1, h2⟩ | ⟨h1, h2⟩
    · have : q = k := B_inj' (by rw [h1] at hq; simpa using hq.symm)
      rw [if_pos this]; exact h2
    · have : q ≠ k := fun e => h2 (by rw [hq, e])
      rw [if_neg this]; exact h.val q x h1 hq
  · intro q hq
    have hin : ({ e with key := .string (B k), val := .int .i64 v } : MapEntry) ∈ (es.modify j fun e => { e with key := .string (B k), val := .int .i64 v }).toList := by
      rw [hl]; exact List.mem_iff_getElem?.2 ⟨j, by rw [List.getElem?_set, if_pos rfl, if_pos hjl]⟩
    have h1 : q ≠ k := fun e' => hq _ hin (by rw [e'])
    unfold fput
    rw [if_neg h1]
    refine h.non q fun x hx hxq => ?_
    have : x.key ∈ (es.modify j fun e => { e with key := .string (B k), val := .int .i64 v }).toList.map (·.key) := by rw [hkeys]; exact List.mem_map.2 ⟨x, hx, rfl⟩
    obtain ⟨y, hy, hyx⟩ := List.mem_map.1 this
    exact hq y hy (by rw [hyx, hxq])
section
variable {P : Program} {ρ : Operand → Value} {w : World} {d : Option Nat} {ty : TypeId} {pos : String} {af : Array Edge} {g : Option (Nat × Bool)} {x y z : Operand} {t kt vt : TypeId}
theorem run_lookup_I {b : Nat} {es clock} {f : Str → Int} {k : Str} (ht : P.underlying t = some (.map kt vt)) (hkt : P.underlying kt = some .string) (hz : ∀ w, (zeroValue vt).run P w = .ok (.int .i64 0) w)
    (hb : w.heap[b]? = some (.map es clock)) (hm : MapIs es f) : (Instr.lookup t (.map (some b)) (.string (B k)) false).run P w = .ok (.int .i64 (f k)) w := by
  have hk : IsKey .string (Value.string (B k)) := trivial
  have hck := run_checkKey (P := P) (w := w) hkt hk es.isEmpty 9999
  rcases findNow_spec hk es.toList 0 hm.key with ⟨h1, h2⟩ | ⟨j, e, h1, h2, h3⟩
  · have hf := run_findKey (P := P) (w := w) hkt h1
    rw [hm.non k h2]
    simp [Instr.lookup, run_underlying ht, MapKept.run_getObj_map hb, hck, hf, hz, Result.andThen]
  · have hf := run_findKey (P := P) (w := w) hkt h1
    have hv := hm.val k e (List.mem_of_getElem? h2) h3
    simp [Instr.lookup, run_underlying ht, MapKept.run_getObj_map hb, hck, hf, hv, Result.andThen]
theorem run_mapUpdate_I {b : Nat} {es : Array MapEntry} {clock} {f : Str → Int} {k : Str} {v : Int} (ht : P.underlying t = some (.map kt vt)) (hkt : P.underlying kt = some .string)
    (hb : w.heap[b]? = some (.map es clock)) (hm : MapIs es f) : ∃ es' clock', (Instr.mapUpdate t (.map (some b)) (.string (B k)) (.int .i64 v)).run P w = .ok () { w with heap := w.heap.setIfInBounds b (.map es' clock') } ∧ MapIs es' (fput f k v) := by
  have hk : IsKey .string (Value.string (B k)) := trivial
  have hck := run_checkKey (P := P) (w := w) hkt hk false 9999
  rcases findNow_spec hk es.toList 0 hm.key with ⟨h1, h2⟩ | ⟨j, e, h1, h2, h3⟩
  · have hf := run_findKey (P := P) (w := w) hkt h1
    refine ⟨_, clock + 1, ?_, hm.push h2 v clock⟩
    simp [Instr.mapUpdate, run_underlying ht, MapKept.run_getObj_map hb, hck, hf, MapKept.run_setObj_map _ hb, Result.andThen]
  · have hf := run_findKey (P := P) (w := w) hkt h1
    rw [Nat.zero_add] at hf
    have hkk := run_keyThatStays (P := P) (w := w) hk
    have h2' : es[j]? = some e := by rw [← Array.getElem?_toList]; exact h2
    refine ⟨_, clock, ?_, hm.modify h2 h3 v⟩
    simp [Instr.mapUpdate, run_underlying ht, MapKept.run_getObj_map hb, hck, hf, h2', h3, hkk, MapKept.run_setObj_map _ hb, Result.andThen]
end
section
variable {G : World → Prop} {Γ : Ctx G} {h : Hp} {L : List HProp} {P : Program} {n : Nat} {ds : List Deferred} {all rest : List Oper} {Q : Qr} {r : Nat → Value} {w : World}
  {d : Nat} {ty : TypeId} {pos : String} {af : Array Edge} {x y z : Operand} {t kt vt : TypeId}
theorem S_makeMap (hS : St Γ h L w) (k : ∀ w', St Γ h (mpI w.heap.size (fun _ => 0) :: L) w' → WL P n ds all rest Q (upd n r d (.map (some w.heap.size))) w') :
    WL P n ds all (⟨some d, .makeMap t none, ty, pos, af, none⟩ :: rest) Q r w := by
  refine WL.val1 (v := .map (some w.heap.size)) (w' := w.alloc (.map #[] 0)) ?_ (k _ ?_)
  · simp [execOp, Instr.makeMap]
  · exact (hS.alloc (.map #[] 0)).conv (i := 0) rfl fun g hg => ⟨_, _, hg, MapIs.nil⟩
theorem S_lookup {i b : Nat} {f : Str → Int} {k : Str} (hS : St Γ h L w) (hi : L[i]? = some (mpI b f)) (hx : ev r x = .map (some b)) (hy : ev r y = .string (B k)) (ht : P.underlying t = some (.map kt vt)) (hkt : P.underlying kt = some .string)
    (hz : ∀ w, (zeroValue vt).run P w = .ok (.int .i64 0) w) (kk : WL P n ds all rest Q (upd n r d (.int .i64 (f k))) w) :
    WL P n ds all (⟨some d, .lookup t x y false, ty, pos, af, none⟩ :: rest) Q r w := by
  obtain ⟨g1, ⟨es, clock, k1, k2⟩, k3, _⟩ := hS.look hi
  refine WL.val1 (v := .int .i64 (f k)) (w' := w) ?_ kk
  have hb : w.heap[b]? = some (.map es clock) := k3 _ _ (by rw [k1 b, if_pos rfl])
  simp [execOp, hx, hy, run_lookup_I ht hkt hz hb k2]
theorem S_mapUpdate {i b : Nat} {f : Str → Int} {k : Str} {v : Int} {L' : List HProp} (hS : St Γ h L w) (hi : L[i]? = some (mpI b f)) (hx : ev r x = .map (some b)) (hy : ev r y = .string (B k)) (hz : ev r z = .int .i64 v) (ht : P.underlying t = some (.map kt vt)) (hkt : P.underlying kt = some .string)
    (hL : L.set i (mpI b (fput f k v)) = L') (kk : ∀ w', St Γ h L' w' → WL P n ds all rest Q r w') :
    WL P n ds all (⟨none, .mapUpdate t x y z, ty, pos, af, none⟩ :: rest) Q r w := by
  subst hL
  obtain ⟨g0, ⟨es, clock, k1, k2⟩, k3, _⟩ := hS.look hi
  have hb : w.heap[b]? = some (.map es clock) := k3 _ _ (by rw [k1 b, if_pos rfl])
  obtain ⟨es', clock', hr, hm⟩ := run_mapUpdate_I (P := P) (w := w) (k := k) (v := v) ht hkt hb k2
  refine WL.none (w' := { w with heap := w.heap.setIfInBounds b (.map es' clock') }) ?_ (kk _ ?_)
  · simp [execOp, hx, hy, hz, hr]
  · refine hS.act hi fun g1 ⟨es1, clock1, q1, _⟩ hin _ => ⟨single b (.map es' clock'), ⟨es', clock', fun _ => rfl, hm⟩, ?_, ?_, ?_⟩
    · intro c o hc
      unfold single at hc
      split at hc
      · rename_i e1; subst e1; injection hc with hc; subst hc; exact (heap_set hb).1
      · cases hc
    · intro c o hc
      unfold single at hc
      split at hc
      · rename_i e1; subst e1; exact .inl ⟨_, by rw [q1 c, if_pos rfl]⟩
      · cases hc
    · refine ⟨rfl, rfl, rfl, by simp, fun c hc hn => (heap_set hb).2 c fun e1 => hn ?_⟩
      subst e1; exact ⟨_, by rw [q1 c, if_pos rfl]⟩
end
end Go.Eng
