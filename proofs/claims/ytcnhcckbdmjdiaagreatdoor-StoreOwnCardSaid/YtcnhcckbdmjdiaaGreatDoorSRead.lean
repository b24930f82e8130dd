/- Reading: the walk back over what waits, where nothing does; a builder beside a disk. -/
import Derived.Test.YtcnhcckbdmjdiaaGreatDoorSRec
import Derived.Test.YtcnhcckbdmjdiaaGreatDoorBldS
import Derived.Test.YtcnhcckbdmjdiaaGreatDoorEng18
set_option linter.all false
set_option linter.unusedSimpArgs false
set_option linter.unusedVariables false
namespace Go.Stet
open Go Go.Eng Go.Proofs
theorem back_M (v : Value) (hv : v.cells.toList = [v]) : MutH GG Tryz.prog 53 (fun _ => True) [v] (fun _ => []) (fun _ A r => ∃ b, r = .func (.func 60) #[] #[.pointer (some ⟨b, 0, none⟩)] ∧ A = [row b [v] 76]) := by
  intro Γ h L w _ hS
  have hS : St Γ h L w := hS
  refine Ret.body Tryz.func53 rfl Tryz.ntmps53 (Nat.le_of_ble_eq_true rfl) ?_
  refine WC.seq ?_
  refine WC.region ?_
  refine S_box (l := [v]) (v := v) hS rfl hv ?_
  intro w1 hS1
  refine WL.val1 (R_assign (v := .nilFunc) rfl) ?_
  refine WL.nil ?_
  refine then_normal ?_
  refine WC.seq ?_
  refine WC.region ?_
  refine WL.val1 (R_makeFunc (v := .func (.func 60) #[] #[.pointer (some ⟨w.heap.size, 0, none⟩)]) rfl) ?_
  refine WL.val1 (R_assign (v := .func (.func 60) #[] #[.pointer (some ⟨w.heap.size, 0, none⟩)]) rfl) ?_
  refine WL.nil ?_
  refine then_normal ?_
  refine WC.ret ?_
  refine top_ret _ (gives1 rfl rfl) ?_
  exact ⟨[row w.heap.size [v] 76], ⟨_, rfl, rfl⟩, hS1⟩
theorem backF_none {Γ : Ctx GG} {h : Hp} {L : List HProp} {w : World} {b i n c : Nat} {a : Option Addr} {y : Value} (hS : St Γ h L w) (hi : L[i]? = some (row b [.slice a n c] 76)) (hn : n = 0) :
    Ret Tryz.prog 60 [y, .pointer (some ⟨b, 0, none⟩)].toArray w fun _ w' => St Γ h L w' := by
  subst hn
  refine Ret.body Tryz.func60 rfl Tryz.ntmps60 (Nat.le_of_ble_eq_true rfl) ?_
  refine WC.seq ?_
  refine WC.region ?_
  refine WL.val1 (R_load (v := .slice a 0 c) rfl (hS.has hi) (Tryz.isAgg76 _) rfl) ?_
  refine WL.val1 (R_len_slice (n := 0) rfl Tryz.underlying76) ?_
  refine WL.val1 (R_sub_i (a := ((0 : Nat) : Int)) (b := 1) rfl rfl (by omega)) ?_
  refine WL.val1 (R_assign (v := .int .i64 (((0 : Nat) : Int) - 1)) rfl) ?_
  refine WL.nil ?_
  refine then_normal ?_
  refine WC.block ?_
  refine WC.unroll 1 ?_
  refine unr_succ ?_
  refine WC.seq ?_
  refine WC.seq ?_
  refine WC.region ?_
  refine WL.val1 (R_move (v := .int .i64 (((0 : Nat) : Int) - 1)) rfl) ?_
  refine WL.val1 (R_geq (a := ((0 : Nat) : Int) - 1) (b := 0) rfl rfl) ?_
  refine WL.nil ?_
  refine then_normal ?_
  refine WC.condP (0 ≤ ((0 : Nat) : Int) - 1) rfl (fun c0 => absurd c0 (by omega)) (fun _ => ?_)
  refine WC.exit ?_
  refine then_exit ?_
  refine then_exit ?_
  refine block_exit ?_
  exact ⟨_, gives0 rfl, hS⟩
theorem bld_LenS {Γ : Ctx GG} {h : Hp} {L : List HProp} {w : World} {b i n c : Nat} {p : Value} {a : Option Addr} (hS : St Γ h L w) (hi : L[i]? = some (row b [p, .slice a n c] 88)) :
    Ret Tryz.prog 40 [Value.pointer (some ⟨b, 0, none⟩)].toArray w fun v w' => v = .int .i64 (n : Nat) ∧ St Γ h L w' := by
  refine Ret.body Tryz.func40 rfl Tryz.ntmps40 (Nat.le_of_ble_eq_true rfl) ?_
  refine WC.seq ?_
  refine WC.region ?_
  refine WL.val1 (R_assign (v := .int .i64 0) rfl) ?_
  refine WL.nil ?_
  refine then_normal ?_
  refine WC.seq ?_
  refine WC.region ?_
  refine WL.val1 (R_move (v := .pointer (some ⟨b, 0, none⟩)) rfl) ?_
  refine WL.val1 (R_nilCheck rfl) ?_
  refine WL.val1 (R_fieldAddr (b := b) (off := 0) (m := 1) rfl (fun _ => by kernel_rfl)) ?_
  refine WL.val1 (R_load (v := .slice a n c) rfl (hS.has hi) (Tryz.isAgg86 _) rfl) ?_
  refine WL.val1 (R_len_slice (n := n) rfl Tryz.underlying86) ?_
  refine WL.val1 (R_assign (v := .int .i64 ((n : Nat) : Int)) rfl) ?_
  refine WL.nil ?_
  refine then_normal ?_
  refine WC.ret ?_
  exact top_ret _ (gives1 rfl rfl) ⟨rfl, hS⟩
/-- the blocks of a chunk, and that none is a row of bytes -/
def Dm (A : HProp) (p : Nat → Prop) : Prop := ∀ g, A g → (∀ b, (∃ o, g b = some o) ↔ p b) ∧ ∀ b o, g b = some o → ∀ cur fz, o ≠ .cells cur 5 fz
theorem Dm_blk {b : Nat} {o : Obj} (ho : ∀ cur fz, o ≠ .cells cur 5 fz) : Dm (blk b o) (fun c => c = b) := fun g hg => by
  refine ⟨fun c => ?_, fun c o' hc => ?_⟩
  · rw [hg c]
    by_cases e : c = b
    · rw [if_pos e]; exact ⟨fun _ => e, fun _ => ⟨_, rfl⟩⟩
    · rw [if_neg e]; exact ⟨fun ⟨o, ho⟩ => (by cases ho), fun h => absurd h e⟩
  · rw [hg c] at hc
    by_cases e : c = b
    · rw [if_pos e] at hc; injection hc with hc; subst hc; exact ho
    · rw [if_neg e] at hc; cases hc
theorem Dm_row {b : Nat} {l : List Value} {e : TypeId} (he : e ≠ 5) : Dm (row b l e) (fun c => c = b) := Dm_blk fun cur fz h => by injection h with _ h; exact he h
theorem Dm_map {κ α : Type} {M : MapK κ α} {b n : Nat} {f : κ → Option α} : Dm (mpG M b f n) (fun c => c = b) := fun g ⟨es, ck, h1, _⟩ => Dm_blk (o := .map es ck) (fun _ _ h => by cases h) g h1
theorem Dm_grow {α : Type} {R : Rp α} {e : TypeId} {h : Hp} {xs : List α} {a : Option Addr} {c : Nat} (he : e ≠ 5) : Dm (grow e R h xs a c) (fun b => a = some ⟨b, 0, none⟩) := fun g hg => by
  rcases hg with ⟨q1, _, _, q4⟩ | ⟨b3, cur3, cells3, q1, q2, _⟩
  · subst q1
    exact ⟨fun b => ⟨fun ⟨o, ho⟩ => (by rw [q4 b] at ho; cases ho), fun h => by cases h⟩, fun b o ho => by rw [q4 b] at ho; cases ho⟩
  · subst q1
    have := Dm_blk (o := .cells cur3 e (0, 0)) (fun _ _ h => by injection h with _ h; exact he h) g q2
    refine ⟨fun b => (this.1 b).trans ⟨fun h => by subst h; rfl, fun h => by injection h with h; injection h with h; exact h.symm⟩, this.2⟩
def Dms (A : List HProp) (p : Nat → Prop) : Prop := ∀ g, Sats A g → (∀ b, (∃ o, g b = some o) ↔ p b) ∧ ∀ b o, g b = some o → ∀ cur fz, o ≠ .cells cur 5 fz
theorem Dms.nil : Dms [] (fun _ => False) := fun g hg => ⟨fun b => ⟨fun ⟨o, ho⟩ => (by rw [hg b] at ho; cases ho), fun h => h.elim⟩, fun b o ho => by rw [hg b] at ho; cases ho⟩
theorem Dms.cons {A : HProp} {L : List HProp} {p q : Nat → Prop} (h : Dm A p) (k : Dms L q) : Dms (A :: L) (fun b => p b ∨ q b) := fun g ⟨g1, g2, h1, h2, hd, hu⟩ => by
  refine ⟨fun b => ?_, fun b o ho => ?_⟩
  · show _ ↔ p b ∨ q b
    rw [← (h g1 h1).1 b, ← (k g2 h2).1 b]
    constructor
    · rintro ⟨o, ho⟩
      rw [hu b] at ho
      cases hg : g1 b with
      | none => rw [hg] at ho; exact .inr ⟨o, by simpa using ho⟩
      | some o1 => exact .inl ⟨o1, rfl⟩
    · rintro (⟨o, ho⟩ | ⟨o, ho⟩)
      · exact ⟨o, by rw [hu b, ho]; rfl⟩
      · cases hg : g1 b with
        | none => exact ⟨o, by rw [hu b, hg]; exact ho⟩
        | some o1 => exact ⟨o1, by rw [hu b, hg]; rfl⟩
  · rw [hu b] at ho
    cases hg : g1 b with
    | none => rw [hg] at ho; exact (k g2 h2).2 b o (by simpa using ho)
    | some o1 => rw [hg] at ho; simp at ho; subst ho; exact (h g1 h1).2 b o1 hg
/-- the text of a builder, in a frame that began behind all the other chunks that are at hand -/
theorem bld_StringA {Γ : Ctx GG} {h0 h h1 : Hp} {w : World} {b c : Nat} {p : Value} {l : Str} {a : Option Addr} {A : List HProp} {pm : Nat → Prop}
    (hM : ∀ b, Γ.M b ↔ pm b) (hD : Dms A pm) (hMl : ∀ b, Γ.M b → b < Γ.we.heap.size) (hin : In h0 Γ.we) (hle : h0.le h) (hbs : Γ.we.heap.size ≤ b)
    (hp : p = .pointer none ∨ p = .pointer (some ⟨b, 0, none⟩)) (hS : St Γ h (row b [p, .slice a l.length c] 88 :: grow 5 Rby h1 l a c :: A) w) :
    Ret Tryz.prog 43 [Value.pointer (some ⟨b, 0, none⟩)].toArray w fun v w' => v = .string (B l) ∧ St Γ h0 A w' := by
  have hbw : w.heap[b]? = some (.cells #[p, .slice a l.length c] 88 (0, 0)) := hS.has (i := 0) rfl
  have hlen : (Lib.byteCells l).length = l.length := by simp [Lib.byteCells]
  have hS3 := hS.pop.pop
  obtain ⟨g, j1, j2, j3, j4⟩ := hS3.ex
  have hB2 : ∀ b2, (∃ cur, w.heap[b2]? = some (.cells cur 5 (0, 0))) → (Γ.we.heap.size ≤ b2 ∨ Γ.M b2) → Γ.we.heap.size ≤ b2 := by
    rintro b2 ⟨cur, hc⟩ h2
    rcases h2 with h2 | h2
    · exact h2
    · obtain ⟨o, ho⟩ := ((hD g j1).1 b2).2 ((hM b2).1 h2)
      have h3 := j2 b2 o ho
      rw [hc] at h3
      injection h3 with h3
      exact absurd h3.symm ((hD g j1).2 b2 o ho cur (0, 0))
  obtain ⟨g1, k1, k2, k3⟩ := hS.look (i := 1) (A := grow 5 Rby h1 l a c) rfl
  have hown : w.ownsRow Γ.we.heap.size 5 1 (.slice a l.length c) (Lib.byteCells l).length (Lib.byteCells l) ∧ (Value.slice a l.length c).ownBlock ≠ some b := by
    rcases k1 with ⟨q1, q2, q3, _⟩ | ⟨b2, cur, cells, q1, q2, q3, q4, q5, q6, q7⟩
    · subst q1; subst q2; subst q3
      exact ⟨⟨by simp, .inl ⟨rfl, rfl⟩⟩, by simp [Value.ownBlock]⟩
    · subst q1
      have hb2 : w.heap[b2]? = some (.cells cur 5 (0, 0)) := k2 _ _ (by rw [q2 b2, if_pos rfl])
      have hB2' : Γ.we.heap.size ≤ b2 := hB2 b2 ⟨cur, hb2⟩ (k3 b2 _ (by rw [q2 b2, if_pos rfl])).2
      have hc := flat_bytes q6
      subst hc
      refine ⟨⟨by simp, .inr ⟨b2, c, cur, by rw [hlen], hB2', hb2, by rw [hlen]; exact q3, q4, q5, by rw [Nat.mul_one]; exact q7⟩⟩, ?_⟩
      intro he
      have he' : b2 = b := Option.some.inj he
      subst he'
      rw [hbw] at hb2
      injection hb2 with hb2
      injection hb2 with _ hb2
      exact absurd hb2 (by decide)
  have hI : Lib.IsBuilder 88 5 Γ.we.heap.size b (Lib.byteCells l) w := by
    rcases hp with rfl | rfl
    · exact .inl ⟨hbs, _, hbw, hown⟩
    · exact .inr ⟨hbs, _, hbw, hown⟩
  refine Ret.of (Tryz.Builder_String_any _ b l w hI hS.keep.size) ?_
  rintro e w' ⟨rfl, hBw⟩
  have hk : Kept Γ.we Γ.M w' := ⟨hBw.os.trans hS.keep.os, hBw.tape.trans hS.keep.tape, hBw.output.trans hS.keep.output, Nat.le_trans hS.keep.size hBw.size, fun k hk hm => by
    rw [hBw.block k hk]; exact hS.keep.old k hk hm⟩
  have hlt : ∀ b o, g b = some o → b < Γ.we.heap.size := fun b o ho => hMl b ((hM b).2 (((hD g j1).1 b).1 ⟨o, ho⟩))
  refine ⟨_, rfl, rfl, hk, fun k o ho => ?_, g, j1, fun b o ho => ?_, fun b => ?_, j4⟩
  · have h2 := hin k o ho
    have hlt : k < Γ.we.heap.size := (Array.getElem?_eq_some_iff.1 h2).1
    rw [hBw.block k hlt]
    exact hS.hin k o (hle k o ho)
  · rw [hBw.block b (hlt b o ho)]; exact j2 b o ho
  · rcases j3 b with h' | h'
    · left
      cases hh : h0 b with
      | none => rfl
      | some o => rw [hle b o hh] at h'; cases h'
    · exact .inr h'
end Go.Stet
