/- A part of an element of one's own slice is set. No condition. -/
import Derived.Test.YtcnhcckbdmjdiaaGreatDoorEng18
set_option linter.all false
set_option linter.unusedSimpArgs false
set_option linter.unusedVariables false
namespace Go.Eng
open Go
theorem putl_left {cs rest vs : List Value} {j : Nat} (hj : j + vs.length ≤ cs.length) : putl (cs ++ rest) j vs = putl cs j vs ++ rest := by
  unfold putl
  rw [List.take_append_of_le_length (by omega), List.drop_append_of_le_length (by omega), List.append_assoc, List.append_assoc, List.append_assoc]
theorem Flat.setF {α} {R : Rp α} {h : Hp} {vs : List Value} {j : Nat} (hj : j + vs.length ≤ R.n) : ∀ {xs : List α} {cells : List Value}, Flat R h xs cells → ∀ {m : Nat} {z z' : α}, xs[m]? = some z → (∀ cs, R.rel h z cs → R.rel h z' (putl cs j vs)) → Flat R h (xs.set m z') (putl cells (m * R.n + j) vs)
  | [], _, _, m, z, _, hm, _ => by simp at hm
  | y :: ys, _, ⟨cs, rest, h1, h2, h3⟩, 0, z, z', hz, hr => by
    subst h1
    have l1 := R.len _ _ _ h2
    have : y = z := by simpa using hz
    subst this
    refine ⟨putl cs j vs, rest, ?_, hr cs h2, h3⟩
    rw [Nat.zero_mul, Nat.zero_add]; exact putl_left (by omega)
  | y :: ys, _, ⟨cs, rest, h1, h2, h3⟩, m + 1, z, z', hz, hr => by
    subst h1
    have l1 := R.len _ _ _ h2
    refine ⟨cs, putl rest (m * R.n + j) vs, ?_, h2, h3.setF hj (by simpa using hz) hr⟩
    unfold putl
    have e1 : (m + 1) * R.n + j = cs.length + (m * R.n + j) := by rw [l1, Nat.succ_mul]; omega
    rw [e1, Nat.add_assoc cs.length, List.take_length_add_append, List.drop_length_add_append]
    simp [List.append_assoc]
section
variable {G : World → Prop} {Γ : Ctx G} {h : Hp} {L : List HProp} {P : Program} {n : Nat} {ds : List Deferred} {all rest : List Oper} {Q : Qr} {r : Nat → Value} {w : World}
  {d : Nat} {ty : TypeId} {pos : String} {af : Array Edge} {x y : Operand} {t e : TypeId}
theorem S_storeF {α} {R : Rp α} {h0 : Hp} {xs : List α} {a : Option Addr} {b c i m j k off : Nat} {v : Value} {vs : List Value} {z z' : α} {L' : List HProp} (hS : St Γ h L w) (hi : L[i]? = some (grow e R h0 xs a c)) (ha : a = some ⟨b, 0, none⟩) (hm : xs[m]? = some z)
    (hx : ev r x = .pointer (some ⟨b, off, none⟩)) (ho : off = m * R.n + j) (hy : ev r y = v) (hv : v.cells.toList = vs) (hk : vs.length = k) (hone : vs.all Value.oneCell' = true) (hj : j + vs.length ≤ R.n) (hrel : ∀ cs, R.rel h0 z cs → R.rel h0 z' (putl cs j vs)) (hs : ∀ w, (sizeOf t).run P w = .ok k w)
    (hL : L.set i (grow e R h0 (xs.set m z') a c) = L') (kk : ∀ w', St Γ h L' w' → WL P n ds all rest Q r w') :
    WL P n ds all (⟨none, .store t x y, ty, pos, af, none⟩ :: rest) Q r w := by
  subst hL; subst ha; subst ho
  have hmx : m < xs.length := by
    rcases Nat.lt_or_ge m xs.length with hh | hh
    · exact hh
    · rw [List.getElem?_eq_none hh] at hm; cases hm
  obtain ⟨g1, k1, k3, _⟩ := hS.look hi
  rcases k1 with ⟨q, _⟩ | ⟨b', cur, cells, q1, q2, q3, q4, q5, q6, q7⟩
  · cases q
  · injection q1 with q1; injection q1 with q1
    subst q1
    have hb : w.heap[b]? = some (.cells cur.toList.toArray e (0, 0)) := by rw [Array.toArray_toList]; exact k3 _ _ (by rw [q2 b, if_pos rfl])
    have hb' : w.heap[b]? = some (.cells cur e (0, 0)) := k3 _ _ (by rw [q2 b, if_pos rfl])
    have hcl : cells.length = xs.length * R.n := q6.length
    have hfit0 : m * R.n + R.n ≤ cells.length := by rw [hcl, ← Nat.succ_mul]; exact Nat.mul_le_mul_right _ hmx
    have hfit : m * R.n + j + vs.length ≤ cells.length := by omega
    have hcur : cells.length ≤ cur.toList.length := by rw [← q7, List.length_take]; exact Nat.min_le_right _ _
    refine WL.none (R_store hx hy hb (hs w) hv hk (by simpa using hone) (by omega)) (kk _ ?_)
    refine hS.act hi fun g2 hg2 hin _ => ?_
    have hg2' : g2 b = some (.cells cur e (0, 0)) := by
      rcases hg2 with ⟨q, _⟩ | ⟨b', cur', cells', p1, p2, _⟩
      · cases q
      · injection p1 with p1; injection p1 with p1
        subst p1
        have := hin b _ (by rw [p2 b, if_pos rfl])
        rw [hb'] at this
        rw [p2 b, if_pos rfl]; exact this.symm
    refine ⟨single b (.cells (putl cur.toList (m * R.n + j) vs).toArray e (0, 0)), ?_, ?_, ?_, ?_⟩
    · refine .inr ⟨b, _, putl cells (m * R.n + j) vs, rfl, fun _ => rfl, by rw [List.length_set]; exact q3, q4, ?_, q6.setF hj hm hrel, ?_⟩
      · rw [List.size_toArray, putl_length (by omega), Array.length_toList]; exact q5
      · rw [putl_length hfit]; exact putl_take q7 hfit
    · intro c o hc
      unfold single at hc; split at hc
      · rename_i e1; subst e1; rw [setRow_heap w c _ _ _ _ hb']; exact hc
      · cases hc
    · intro c o hc
      unfold single at hc; split at hc
      · rename_i e1; subst e1; exact .inl ⟨_, hg2'⟩
      · cases hc
    · have := setRow_stp w b (putl cur.toList (m * R.n + j) vs).toArray
      refine ⟨this.os, this.tape, this.output, this.size, fun c hc hn => this.old c hc fun e1 => hn ?_⟩
      subst e1; exact ⟨_, hg2'⟩
end
end Go.Eng
