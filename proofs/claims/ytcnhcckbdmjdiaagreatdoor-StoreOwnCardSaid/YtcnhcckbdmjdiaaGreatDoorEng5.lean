/- A part of the proof engine: rules for steps of the machine over frames and memory. Each under the conditions that its own statement names. -/
import Derived.Test.YtcnhcckbdmjdiaaGreatDoorEng4
set_option linter.all false
set_option linter.unusedSimpArgs false
set_option linter.unusedVariables false
namespace Go.Eng
open Go
theorem ext_drew (w : World) : Ext w w.drew := ⟨rfl, rfl, rfl, Nat.le_refl _, fun _ _ _ => rfl⟩
section
variable {G : World → Prop} {Γ : Ctx G} {h : Hp} {L : List HProp} {P : Program} {w : World}
theorem run_append_zero {t ty e : TypeId} {i : TypeInfo} (ht : P.underlying t = some (.slice e)) (hi : P.info? e = some i) (a : Option Addr) (n c : Nat) (hn : n ≤ c) (a2 : Option Addr) (c2 : Nat) :
    (Builtin.append_ #[t, t] ty #[.slice a n c, .slice a2 0 c2]).run P w = .ok (.slice a n c) w := by
  cases a <;> cases a2 <;> simp [Builtin.append_, run_underlying ht, sizeOf, typeInfo, hi, Builtin.lenOf, hn, Builtin.firstCells, loadCells, loadCellsFrom, storeCells]
theorem At.cells {b o : Nat} {cs : List Value} (ha : At h b o cs) (hS : St Γ h L w) : ∀ j v, cs[j]? = some v → w.cell? ((⟨b, o, none⟩ : Addr).add j) = some v := by
  obtain ⟨arr, e, fz, h1, h2⟩ := ha
  intro j v hj
  rw [add_lit, cell_row (hS.hin _ _ h1)]
  exact h2 j v hj
theorem take_app {cur : List Value} {cells news : List Value} (hc : cur.take cells.length = cells) :
    (cur.take cells.length ++ news ++ cur.drop (cells.length + news.length)).take (cells.length + news.length) = cells ++ news := by
  rw [hc, ← List.length_append, List.take_left]
theorem append_chunk {α} {R : Rp α} {xs ys : List α} {a a2 : Option Addr} {c c2 i : Nat} {h0 : Hp} {t e ty : TypeId} {info : TypeInfo} {z : Value}
    (ht : P.underlying t = some (.slice e)) (hinfo : P.info? e = some info) (hz : info.zero = some z) (hsz : info.size = R.n) (hzs : z.cells.size = R.n) (hR : R.n ≠ 0)
    (hS : St Γ h L w) (hi : L[i]? = some (grow e R h0 xs a c)) (hle : h0.le h) (hs : Sl R h ys a2 c2)
    (hb : (xs.length + ys.length) * info.bytes ≤ 140737488355328) (hm : xs.length + ys.length ≤ 9223372036854775807) :
    ∃ a' c' w', (Builtin.append_ #[t, t] ty #[.slice a xs.length c, .slice a2 ys.length c2]).run P w = .ok (.slice a' (xs.length + ys.length) c') w' ∧ St Γ h (L.set i (grow e R h (xs ++ ys) a' c')) w' := by
  have hmono := hS.growMono hi hle
  have hlt : i < L.length := by
    rcases Nat.lt_or_ge i L.length with h | h
    · exact h
    · rw [List.getElem?_eq_none h] at hi; cases hi
  have hi' : (L.set i (grow e R h xs a c))[i]? = some (grow e R h xs a c) := by rw [List.getElem?_set_self hlt]
  have hmono' : ∀ A w', St Γ h ((L.set i (grow e R h xs a c)).set i A) w' → St Γ h (L.set i A) w' := fun A w' hh => by rwa [List.set_set] at hh
  obtain ⟨cells2, hf2, hat⟩ := hs.flat
  have hl2 : cells2.length = ys.length * R.n := hf2.length
  by_cases hy : ys = []
  · subst hy
    refine ⟨a, c, w, ?_, by rw [List.append_nil]; exact hmono⟩
    have hxc : xs.length ≤ c := by
      obtain ⟨g1, k1, _⟩ := hmono.look hi'
      rcases k1 with ⟨_, _, k3, _⟩ | ⟨_, _, _, _, _, k3, _⟩
      · subst k3; exact Nat.zero_le _
      · exact k3
    exact run_append_zero ht hinfo a xs.length c hxc a2 c2
  · have hat' : ∃ b o, a2 = some ⟨b, o, none⟩ ∧ At h b o cells2 := by
      rcases hat with h1 | h1 | h1
      · exact absurd h1 hy
      · exact absurd h1 hR
      · exact h1
    obtain ⟨b2, o2, ha2, hat2⟩ := hat'
    subst ha2
    have hpos : 0 < ys.length := by cases ys with | nil => exact absurd rfl hy | cons _ _ => simp
    have hnews := hat2.cells hS
    -- a new block, whatever lay there
    have fresh : ∀ (cells : List Value) (o : Nat), Flat R h xs cells → ∃ c', St Γ h (L.set i (grow e R h (xs ++ ys) (some ⟨w.heap.size, 0, none⟩) (grownCap w (xs.length + ys.length) o e)))
        (w.drew.alloc (.cells (cells.toArray ++ cells2.toArray ++ Builtin.zeroCells z.cells (grownCap w (xs.length + ys.length) o e - (xs.length + ys.length))) e)) ∧ c' = c := by
      intro cells o hf
      refine ⟨c, ?_, rfl⟩
      refine hmono' _ _ (hmono.act hi' fun g1 _ _ _ => ⟨single w.heap.size (.cells (cells.toArray ++ cells2.toArray ++ Builtin.zeroCells z.cells (grownCap w (xs.length + ys.length) o e - (xs.length + ys.length))) e), ?_, ?_, ?_, ?_⟩)
      · refine .inr ⟨_, _, cells ++ cells2, rfl, fun _ => rfl, ?_, grownCap_le_maxLen w _ _ _ (by simpa [maxLen] using hm), ?_, hf.append hf2, ?_⟩
        · rw [List.length_append]; exact grownCap_ge w _ _ _
        · have := grownCap_ge w (xs.length + ys.length) o e
          simp only [Array.size_append, List.size_toArray, size_zeroCells, hzs, hf.length, hl2, ← Nat.add_mul]
          congr 1; omega
        · simp only [Array.toList_append, List.append_assoc]
          rw [← List.append_assoc, List.take_left]
      · exact In_single_alloc w.drew _
      · intro b o' hb'; unfold single at hb'; split at hb'
        · right; omega
        · cases hb'
      · have e1 := (ext_drew w).trans (ext_alloc w.drew (.cells (cells.toArray ++ cells2.toArray ++ Builtin.zeroCells z.cells (grownCap w (xs.length + ys.length) o e - (xs.length + ys.length))) e))
        exact ⟨e1.os, e1.tape, e1.output, e1.size, fun b hb' _ => e1.old b hb' id⟩
    obtain ⟨g1, k1, k2, k3⟩ := hmono.look hi'
    rcases k1 with ⟨q1, q2, q3, q4⟩ | ⟨b, cur, cells, q1, q2, q3, q4, q5, q6, q7⟩
    · subst q1; subst q2; subst q3
      have hr := run_append_nil (P := P) w t ty e info z ht hinfo hz ⟨b2, o2, none⟩ ys.length c2 cells2 (by rw [hsz]; exact hl2) hnews hpos (by simp at hm; omega) (by simp at hb; omega)
      obtain ⟨_, hf, _⟩ := fresh [] 0 rfl
      simp only [List.length_nil, Nat.zero_add, Array.empty_append] at hf hr ⊢
      exact ⟨_, _, _, hr, hf⟩
    · subst q1
      have hbw : w.heap[b]? = some (.cells cur e (0, 0)) := k2 _ _ (by rw [q2 b, if_pos rfl])
      have hcl : cells.length = xs.length * R.n := q6.length
      by_cases hroom : xs.length + ys.length ≤ c
      · have hfit : xs.length * info.size + cells2.length ≤ cur.size := by rw [hl2, q5, hsz, ← Nat.add_mul]; exact Nat.mul_le_mul_right _ hroom
        have h1 : ∀ u ∈ cells2, u.oneCell' = true := by have := hf2.one; simpa using this
        have hr := run_append_room (P := P) w t ty e info ht hinfo b xs.length c cur hbw ⟨b2, o2, none⟩ ys.length c2 cells2 (by rw [hsz]; exact hl2) hnews h1 hroom hfit
        refine ⟨_, _, _, hr, hmono' _ _ (hmono.act hi' fun g1 hg1 hgin _ => ?_)⟩
        have hg1' : g1 b = some (.cells cur e (0, 0)) ∧ ∀ b', b' ≠ b → g1 b' = none := by
          rcases hg1 with ⟨q1, _⟩ | ⟨b', cur', cells', q1, q2', _⟩
          · cases q1
          · injection q1 with q1; injection q1 with q1
            subst q1
            refine ⟨?_, fun b' hb' => by rw [q2' b', if_neg hb']⟩
            have hin1 : w.heap[b]? = some (.cells cur' e (0, 0)) := hgin _ _ (by rw [q2' b, if_pos rfl])
            rw [q2' b, if_pos rfl]
            rw [hbw] at hin1
            exact hin1.symm
        refine ⟨single b (.cells (cur.toList.take (xs.length * info.size) ++ cells2 ++ cur.toList.drop (xs.length * info.size + cells2.length)).toArray e (0, 0)), ?_, ?_, ?_, ?_⟩
        · refine .inr ⟨b, _, cells ++ cells2, rfl, fun _ => rfl, by rw [List.length_append]; exact hroom, q4, ?_, q6.append hf2, ?_⟩
          · simp only [List.size_toArray, List.length_append, List.length_take, List.length_drop, Array.length_toList]
            rw [← q5]; omega
          · rw [hsz, ← hcl, List.length_append]
            exact take_app q7
        · intro b' o' hb'
          unfold single at hb'; split at hb'
          · rename_i e1; subst e1; rw [setRow_heap w b' _ _ _ _ hbw]; exact hb'
          · cases hb'
        · intro b' o' hb'
          unfold single at hb'; split at hb'
          · rename_i e1; subst e1; exact .inl ⟨_, hg1'.1⟩
          · cases hb'
        · have := setRow_stp w b (cur.toList.take (xs.length * info.size) ++ cells2 ++ cur.toList.drop (xs.length * info.size + cells2.length)).toArray
          refine ⟨this.os, this.tape, this.output, this.size, fun b' hb' hn => this.old b' hb' fun e1 => hn ?_⟩
          subst e1; exact ⟨_, hg1'.1⟩
      · have holds : ∀ j v, cells[j]? = some v → w.cell? ((⟨b, 0, none⟩ : Addr).add j) = some v := by
          intro j v hj
          rw [add_lit, cell_row hbw, Nat.zero_add, ← Array.getElem?_toList]
          have hjl : j < cells.length := by
            rcases Nat.lt_or_ge j cells.length with h | h
            · exact h
            · rw [List.getElem?_eq_none h] at hj; cases hj
          rw [← q7, List.getElem?_take, if_pos hjl] at hj
          exact hj
        have hr := run_append_grow (P := P) w t ty e info z ht hinfo hz ⟨b, 0, none⟩ xs.length c cells (by rw [hsz]; exact hcl) holds ⟨b2, o2, none⟩ ys.length c2 cells2 (by rw [hsz]; exact hl2) hnews (by omega) (by omega) (growslice_fits (by omega) hb)
        obtain ⟨_, hf, _⟩ := fresh cells c q6
        exact ⟨_, _, _, hr, hf⟩
theorem S_append {α} {R : Rp α} {xs ys : List α} {a a2 : Option Addr} {c c2 : Nat} {h0 : Hp} {t e ty : TypeId} {info : TypeInfo} {z : Value} {n : Nat} {ds : List Deferred} {all rest : List Oper} {Q : Qr} {r : Nat → Value}
    {d : Nat} {pos : String} {af : Array Edge} {s x : Operand} (i : Nat)
    (ht : P.underlying t = some (.slice e)) (hinfo : P.info? e = some info) (hz : info.zero = some z) (hsz : info.size = R.n) (hzs : z.cells.size = R.n) (hR : R.n ≠ 0) (bytes : Nat) (hby : info.bytes = bytes)
    (hS : St Γ h L w) (hi : L[i]? = some (grow e R h0 xs a c)) (hle : h0.le h) (hs : Sl R h ys a2 c2) (hx : ev r s = .slice a xs.length c) (hy : ev r x = .slice a2 ys.length c2)
    (hb : (xs.length + ys.length) * bytes ≤ 140737488355328) (hm : xs.length + ys.length ≤ 9223372036854775807)
    (k : ∀ a' c' w', St Γ h (L.set i (grow e R h (xs ++ ys) a' c')) w' → WL P n ds all rest Q (upd n r d (.slice a' (xs ++ ys).length c')) w') :
    WL P n ds all (⟨some d, .call ⟨.builtin .append, [s, x].toArray, [t, t].toArray⟩, ty, pos, af, none⟩ :: rest) Q r w := by
  subst hby
  obtain ⟨a', c', w', h1, h2⟩ := append_chunk (ty := ty) ht hinfo hz hsz hzs hR hS hi hle hs hb hm
  refine WL.val1 (v := .slice a' (xs ++ ys).length c') (w' := w') ?_ (k a' c' w' h2)
  rw [List.length_append]
  simp [execOp, resolve, invoke, builtin, hx, hy, h1]
end
end Go.Eng
