/- A part of the proof engine: rules for steps of the machine over frames and memory. Each under the conditions that its own statement names. -/
import Derived.Test.YtcnhcckbdmjdiaaGreatDoorEng9
import Derived.Lib.AppendStr
set_option linter.all false
set_option linter.unusedSimpArgs false
set_option linter.unusedVariables false
namespace Go.Eng
open Go
section
variable {G : World → Prop} {Γ : Ctx G} {h : Hp} {L : List HProp} {P : Program} {w : World}
theorem strCells_cons (b : UInt8) (l : Str) : Lib.strCells (B (b :: l)) = .int .u8 (b.toNat : Int) :: Lib.strCells (B l) := rfl
theorem flat_str (h : Hp) : ∀ l : Str, Flat Rby h l (Lib.strCells (B l))
  | [] => rfl
  | b :: l => ⟨[.int .u8 (b.toNat : Int)], Lib.strCells (B l), rfl, rfl, flat_str h l⟩
theorem run_append_zeroS {t u ty e : TypeId} {i : TypeInfo} (ht : P.underlying t = some (.slice e)) (hu : P.underlying u = some .string) (hi : P.info? e = some i) (a : Option Addr) (n c : Nat) (hn : n ≤ c) :
    (Builtin.append_ #[t, u] ty #[.slice a n c, .string (B [])]).run P w = .ok (.slice a n c) w := by
  cases a <;> simp [Builtin.append_, run_underlying ht, run_underlying hu, sizeOf, typeInfo, hi, Builtin.lenOf, hn, show (B []).size = 0 from rfl, show (B []).data = #[] from rfl, Builtin.firstCells, loadCells, loadCellsFrom, storeCells]
theorem append_chunkS {xs ys : Str} {a : Option Addr} {c i : Nat} {h0 : Hp} {t u e ty : TypeId} {info : TypeInfo} {z : Value}
    (ht : P.underlying t = some (.slice e)) (hu : P.underlying u = some .string) (hinfo : P.info? e = some info) (hz : info.zero = some z) (hsz : info.size = 1) (hzs : z.cells.size = 1)
    (hS : St Γ h L w) (hi : L[i]? = some (grow e Rby h0 xs a c)) (hle : h0.le h)
    (hb : (xs.length + ys.length) * info.bytes ≤ 140737488355328) (hm : xs.length + ys.length ≤ 9223372036854775807) :
    ∃ a' c' w', (Builtin.append_ #[t, u] ty #[.slice a xs.length c, .string (B ys)]).run P w = .ok (.slice a' (xs.length + ys.length) c') w' ∧ St Γ h (L.set i (grow e Rby h (xs ++ ys) a' c')) w' := by
  have hmono := hS.growMono hi hle
  have hlt : i < L.length := by
    rcases Nat.lt_or_ge i L.length with h | h
    · exact h
    · rw [List.getElem?_eq_none h] at hi; cases hi
  have hi' : (L.set i (grow e Rby h xs a c))[i]? = some (grow e Rby h xs a c) := by rw [List.getElem?_set_self hlt]
  have hmono' : ∀ A w', St Γ h ((L.set i (grow e Rby h xs a c)).set i A) w' → St Γ h (L.set i A) w' := fun A w' hh => by rwa [List.set_set] at hh
  have hsz : info.size = Rby.n := hsz
  have hzs : z.cells.size = Rby.n := hzs
  have hsz2 : (B ys).size = ys.length := rfl
  have hf2 : Flat Rby h ys (Lib.strCells (B ys)) := flat_str h ys
  have hl2 : (Lib.strCells (B ys)).length = ys.length * Rby.n := hf2.length
  have hR : Rby.n = 1 := rfl
  by_cases hy : ys = []
  · subst hy
    refine ⟨a, c, w, ?_, by rw [List.append_nil]; exact hmono⟩
    have hxc : xs.length ≤ c := by
      obtain ⟨g1, k1, _⟩ := hmono.look hi'
      rcases k1 with ⟨_, _, k3, _⟩ | ⟨_, _, _, _, _, k3, _⟩
      · subst k3; exact Nat.zero_le _
      · exact k3
    exact run_append_zeroS ht hu hinfo a xs.length c hxc
  · have hpos : 0 < ys.length := by cases ys with | nil => exact absurd rfl hy | cons _ _ => simp
    -- a new block, whatever lay there
    have fresh : ∀ (cells : List Value) (o : Nat), Flat Rby h xs cells → ∃ c', St Γ h (L.set i (grow e Rby h (xs ++ ys) (some ⟨w.heap.size, 0, none⟩) (grownCap w (xs.length + ys.length) o e)))
        (w.drew.alloc (.cells (cells.toArray ++ (Lib.strCells (B ys)).toArray ++ Builtin.zeroCells z.cells (grownCap w (xs.length + ys.length) o e - (xs.length + ys.length))) e)) ∧ c' = c := by
      intro cells o hf
      refine ⟨c, ?_, rfl⟩
      refine hmono' _ _ (hmono.act hi' fun g1 _ _ _ => ⟨single w.heap.size (.cells (cells.toArray ++ (Lib.strCells (B ys)).toArray ++ Builtin.zeroCells z.cells (grownCap w (xs.length + ys.length) o e - (xs.length + ys.length))) e), ?_, ?_, ?_, ?_⟩)
      · refine .inr ⟨_, _, cells ++ (Lib.strCells (B ys)), rfl, fun _ => rfl, ?_, grownCap_le_maxLen w _ _ _ (by simpa [maxLen] using hm), ?_, hf.append hf2, ?_⟩
        · rw [List.length_append]; exact grownCap_ge w _ _ _
        · have := grownCap_ge w (xs.length + ys.length) o e
          simp only [Array.size_append, List.size_toArray, size_zeroCells, hzs, hf.length, hl2, ← Nat.add_mul]
          exact congrArg (· * Rby.n) (by omega)
        · simp only [Array.toList_append, List.append_assoc]
          rw [← List.append_assoc, List.take_left]
      · exact In_single_alloc w.drew _
      · intro b o' hb'; unfold single at hb'; split at hb'
        · right; omega
        · cases hb'
      · have e1 := (ext_drew w).trans (ext_alloc w.drew (.cells (cells.toArray ++ (Lib.strCells (B ys)).toArray ++ Builtin.zeroCells z.cells (grownCap w (xs.length + ys.length) o e - (xs.length + ys.length))) e))
        exact ⟨e1.os, e1.tape, e1.output, e1.size, fun b hb' _ => e1.old b hb' id⟩
    obtain ⟨g1, k1, k2, k3⟩ := hmono.look hi'
    rcases k1 with ⟨q1, q2, q3, q4⟩ | ⟨b, cur, cells, q1, q2, q3, q4, q5, q6, q7⟩
    · subst q1; subst q2; subst q3
      have hr := run_append_nil_string (P := P) w t u ty e info z ht hu hinfo hz (B ys) (by rw [hsz2]; exact hpos) (by rw [hsz2]; simp at hm; omega) (by rw [hsz2]; simp at hb; omega)
      rw [show (B ys).data.map (fun b => Value.int .u8 (b.toNat : Int)) = (Lib.strCells (B ys)).toArray from by apply Array.ext'; simp [Lib.strCells], hsz2] at hr
      obtain ⟨_, hf, _⟩ := fresh [] 0 rfl
      simp only [List.length_nil, Nat.zero_add, Array.empty_append] at hf hr ⊢
      exact ⟨_, _, _, hr, hf⟩
    · subst q1
      have hbw : w.heap[b]? = some (.cells cur e (0, 0)) := k2 _ _ (by rw [q2 b, if_pos rfl])
      have hcl : cells.length = xs.length * Rby.n := q6.length
      by_cases hroom : xs.length + ys.length ≤ c
      · have hfit : xs.length * info.size + (Lib.strCells (B ys)).length ≤ cur.size := by rw [hl2, q5, hsz, ← Nat.add_mul]; exact Nat.mul_le_mul_right _ hroom
        have h1 : ∀ u ∈ (Lib.strCells (B ys)), u.oneCell' = true := by have := hf2.one; simpa using this
        have hr := Lib.run_append_room_string (P := P) w t u ty e info ht hu hinfo hsz b xs.length c cur hbw (B ys) (by rw [hsz2]; exact hroom) (by rw [hsz2]; rw [hsz, hl2, hR] at hfit; omega)
        rw [hsz2] at hr
        have e0 : xs.length * info.size = xs.length := by rw [hsz, hR, Nat.mul_one]
        have e1' : (Lib.strCells (B ys)).length = ys.length := by rw [hl2, hR, Nat.mul_one]
        replace hr : (Builtin.append_ #[t, u] ty #[.slice (some ⟨b, 0, none⟩) xs.length c, .string (B ys)]).run P w = .ok (.slice (some ⟨b, 0, none⟩) (xs.length + ys.length) c) (w.setRow b (cur.toList.take (xs.length * info.size) ++ (Lib.strCells (B ys)) ++ cur.toList.drop (xs.length * info.size + (Lib.strCells (B ys)).length)).toArray) := by rw [e0, e1']; exact hr
        refine ⟨_, _, _, hr, hmono' _ _ (hmono.act hi' fun g1 hg1 hgin _ => ?_)⟩
        have hg1' : g1 b = some (.cells cur e (0, 0)) ∧ ∀ b', b' ≠ b → g1 b' = none := by
          rcases hg1 with ⟨q1, _⟩ | ⟨b', cur', cells', q1, q2', _⟩
          · cases q1
          · injection q1 with q1; injection q1 with q1
            subst q1
            refine ⟨?_, fun b' hb' => by rw [q2' b', if_neg hb']⟩
            have hin1 : w.heap[b]? = some (.cells cur' e (0, 0)) := hgin _ _ (by rw [q2' b, if_pos rfl])
            rw [q2' b, if_pos rfl]
            rw [hbw] at hin1
            exact hin1.symm
        refine ⟨single b (.cells (cur.toList.take (xs.length * info.size) ++ (Lib.strCells (B ys)) ++ cur.toList.drop (xs.length * info.size + (Lib.strCells (B ys)).length)).toArray e (0, 0)), ?_, ?_, ?_, ?_⟩
        · refine .inr ⟨b, _, cells ++ (Lib.strCells (B ys)), rfl, fun _ => rfl, by rw [List.length_append]; exact hroom, q4, ?_, q6.append hf2, ?_⟩
          · simp only [List.size_toArray, List.length_append, List.length_take, List.length_drop, Array.length_toList]
            rw [← q5]; omega
          · rw [hsz, ← hcl, List.length_append]
            exact take_app q7
        · intro b' o' hb'
          unfold single at hb'; split at hb'
          · rename_i e1; subst e1; rw [setRow_heap w b' _ _ _ _ hbw]; exact hb'
          · cases hb'
        · intro b' o' hb'
          unfold single at hb'; split at hb'
          · rename_i e1; subst e1; exact .inl ⟨_, hg1'.1⟩
          · cases hb'
        · have := setRow_stp w b (cur.toList.take (xs.length * info.size) ++ (Lib.strCells (B ys)) ++ cur.toList.drop (xs.length * info.size + (Lib.strCells (B ys)).length)).toArray
          refine ⟨this.os, this.tape, this.output, this.size, fun b' hb' hn => this.old b' hb' fun e1 => hn ?_⟩
          subst e1; exact ⟨_, hg1'.1⟩
      · have holds : ∀ j v, cells[j]? = some v → w.cell? ((⟨b, 0, none⟩ : Addr).add j) = some v := by
          intro j v hj
          rw [add_lit, cell_row hbw, Nat.zero_add, ← Array.getElem?_toList]
          have hjl : j < cells.length := by
            rcases Nat.lt_or_ge j cells.length with h | h
            · exact h
            · rw [List.getElem?_eq_none h] at hj; cases hj
          rw [← q7, List.getElem?_take, if_pos hjl] at hj
          exact hj
        have hr := Lib.run_append_grow_string (P := P) w t u ty e info z ht hu hinfo hz ⟨b, 0, none⟩ xs.length c cells (by rw [hsz]; exact hcl) holds (B ys) (by rw [hsz2]; omega) (by rw [hsz2]; omega) (growslice_fits (by rw [hsz2]; omega) (by rw [hsz2]; exact hb))
        rw [hsz2] at hr
        obtain ⟨_, hf, _⟩ := fresh cells c q6
        exact ⟨_, _, _, hr, hf⟩
theorem S_appendS {xs ys : Str} {a : Option Addr} {c : Nat} {h0 : Hp} {t u e ty : TypeId} {info : TypeInfo} {z : Value} {n : Nat} {ds : List Deferred} {all rest : List Oper} {Q : Qr} {r : Nat → Value}
    {d : Nat} {pos : String} {af : Array Edge} {s x : Operand} (i : Nat)
    (ht : P.underlying t = some (.slice e)) (hu : P.underlying u = some .string) (hinfo : P.info? e = some info) (hz : info.zero = some z) (hsz : info.size = 1) (hzs : z.cells.size = 1) (bytes : Nat) (hby : info.bytes = bytes)
    (hS : St Γ h L w) (hi : L[i]? = some (grow e Rby h0 xs a c)) (hle : h0.le h) (hx : ev r s = .slice a xs.length c) (hy : ev r x = .string (B ys))
    (hb : (xs.length + ys.length) * bytes ≤ 140737488355328) (hm : xs.length + ys.length ≤ 9223372036854775807)
    (k : ∀ a' c' w', St Γ h (L.set i (grow e Rby h (xs ++ ys) a' c')) w' → WL P n ds all rest Q (upd n r d (.slice a' (xs ++ ys).length c')) w') :
    WL P n ds all (⟨some d, .call ⟨.builtin .append, [s, x].toArray, [t, u].toArray⟩, ty, pos, af, none⟩ :: rest) Q r w := by
  subst hby
  obtain ⟨a', c', w', h1, h2⟩ := append_chunkS (ty := ty) ht hu hinfo hz hsz hzs hS hi hle hb hm
  refine WL.val1 (v := .slice a' (xs ++ ys).length c') (w' := w') ?_ (k a' c' w' h2)
  rw [List.length_append]
  simp [execOp, resolve, invoke, builtin, hx, hy, h1]
end
end Go.Eng
