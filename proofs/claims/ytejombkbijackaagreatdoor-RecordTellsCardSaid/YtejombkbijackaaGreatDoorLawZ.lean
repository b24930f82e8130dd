/- The row of RecordTells: for every input the law returns true, and each argument reads behind the call as it did before. The listed variables are as the card ties them. -/
import Derived.Test.YtejombkbijackaaGreatDoorEng14
import Derived.Test.YtejombkbijackaaGreatDoorC16
import Derived.Test.YtejombkbijackaaGreatDoorRows
import Derived.Test.YtejombkbijackaaGreatDoorCards
import Derived.Test.YtejombkbijackaaGreatDoorTie
set_option linter.all false
set_option linter.unusedSimpArgs false
set_option linter.unusedVariables false
namespace Go.Stet
open Go Go.Eng Go.Proofs Go.Proofs.YtejombkbijackaaGreatDoor Go.ChangeShapes Go.WideShapes Go.RowKit
theorem op9 : Opens Tryz.prog 9 Rstr := Opens.str Tryz.underlying9 (by kernel_rfl)
theorem op4 : Opens Tryz.prog 4 Rbool := Opens.bool Tryz.underlying4 (by kernel_rfl)
theorem op44 : Opens Tryz.prog 44 RSeen := ⟨by kernel_rfl, fun H enc W base sp held fuel cs x hx => by
  obtain ⟨hl, hf⟩ := trod_parts Tryz.underlying44 hx
  have hl : cs.length = 3 := hl.trans (by kernel_rfl)
  obtain ⟨v0, v1, v2, rfl⟩ := list3 hl
  obtain ⟨n0, y0, h0⟩ := hf 0 _ rfl
  have h0 : DataW.trod enc Tryz.prog W base sp held n0 9 (([v0, v1, v2].drop 0).take (Tryz.prog.cellsOf 9)) = some y0 := h0
  rw [show Tryz.prog.cellsOf 9 = 1 by kernel_rfl] at h0
  obtain ⟨x0, e0⟩ := op9.2 _ _ _ _ _ _ _ _ _ h0
  have e0 : v0 = _ := List.head_eq_of_cons_eq (show v0 :: [] = _ :: [] from e0)
  obtain ⟨n1, y1, h1⟩ := hf 1 _ rfl
  have h1 : DataW.trod enc Tryz.prog W base sp held n1 4 (([v0, v1, v2].drop 1).take (Tryz.prog.cellsOf 4)) = some y1 := h1
  rw [show Tryz.prog.cellsOf 4 = 1 by kernel_rfl] at h1
  obtain ⟨x1, e1⟩ := op4.2 _ _ _ _ _ _ _ _ _ h1
  have e1 : v1 = _ := List.head_eq_of_cons_eq (show v1 :: [] = _ :: [] from e1)
  obtain ⟨n2, y2, h2⟩ := hf 2 _ rfl
  have h2 : DataW.trod enc Tryz.prog W base sp held n2 9 (([v0, v1, v2].drop 2).take (Tryz.prog.cellsOf 9)) = some y2 := h2
  rw [show Tryz.prog.cellsOf 9 = 1 by kernel_rfl] at h2
  obtain ⟨x2, e2⟩ := op9.2 _ _ _ _ _ _ _ _ _ h2
  have e2 : v2 = _ := List.head_eq_of_cons_eq (show v2 :: [] = _ :: [] from e2)
  exact ⟨⟨x0, x1, x2⟩, by rw [e0, e1, e2] <;> rfl⟩⟩
theorem op39 : Opens Tryz.prog 39 (Rsl RSeen) := Opens.slice Tryz.underlying39 (by kernel_rfl) op44 (by decide)
theorem op46 : Opens Tryz.prog 46 RFile := ⟨by kernel_rfl, fun H enc W base sp held fuel cs x hx => by
  obtain ⟨hl, hf⟩ := trod_parts Tryz.underlying46 hx
  have hl : cs.length = 2 := hl.trans (by kernel_rfl)
  obtain ⟨v0, v1, rfl⟩ := list2 hl
  obtain ⟨n0, y0, h0⟩ := hf 0 _ rfl
  have h0 : DataW.trod enc Tryz.prog W base sp held n0 9 (([v0, v1].drop 0).take (Tryz.prog.cellsOf 9)) = some y0 := h0
  rw [show Tryz.prog.cellsOf 9 = 1 by kernel_rfl] at h0
  obtain ⟨x0, e0⟩ := op9.2 _ _ _ _ _ _ _ _ _ h0
  have e0 : v0 = _ := List.head_eq_of_cons_eq (show v0 :: [] = _ :: [] from e0)
  obtain ⟨n1, y1, h1⟩ := hf 1 _ rfl
  have h1 : DataW.trod enc Tryz.prog W base sp held n1 9 (([v0, v1].drop 1).take (Tryz.prog.cellsOf 9)) = some y1 := h1
  rw [show Tryz.prog.cellsOf 9 = 1 by kernel_rfl] at h1
  obtain ⟨x1, e1⟩ := op9.2 _ _ _ _ _ _ _ _ _ h1
  have e1 : v1 = _ := List.head_eq_of_cons_eq (show v1 :: [] = _ :: [] from e1)
  exact ⟨⟨x0, x1⟩, by rw [e0, e1] <;> rfl⟩⟩
theorem op40 : Opens Tryz.prog 40 (Rsl RFile) := Opens.slice Tryz.underlying40 (by kernel_rfl) op46 (by decide)
theorem op42 : Opens Tryz.prog 42 RRec := ⟨by kernel_rfl, fun H enc W base sp held fuel cs x hx => by
  obtain ⟨hl, hf⟩ := trod_parts Tryz.underlying42 hx
  have hl : cs.length = 3 := hl.trans (by kernel_rfl)
  obtain ⟨v0, v1, v2, rfl⟩ := list3 hl
  obtain ⟨n0, y0, h0⟩ := hf 0 _ rfl
  have h0 : DataW.trod enc Tryz.prog W base sp held n0 9 (([v0, v1, v2].drop 0).take (Tryz.prog.cellsOf 9)) = some y0 := h0
  rw [show Tryz.prog.cellsOf 9 = 1 by kernel_rfl] at h0
  obtain ⟨x0, e0⟩ := op9.2 _ _ _ _ _ _ _ _ _ h0
  have e0 : v0 = _ := List.head_eq_of_cons_eq (show v0 :: [] = _ :: [] from e0)
  obtain ⟨n1, y1, h1⟩ := hf 1 _ rfl
  have h1 : DataW.trod enc Tryz.prog W base sp held n1 39 (([v0, v1, v2].drop 1).take (Tryz.prog.cellsOf 39)) = some y1 := h1
  rw [show Tryz.prog.cellsOf 39 = 1 by kernel_rfl] at h1
  obtain ⟨x1, a1, c1, e1, s1⟩ := op39.2 _ _ _ _ _ _ _ _ _ h1
  have e1 : v1 = _ := List.head_eq_of_cons_eq (show v1 :: [] = _ :: [] from e1)
  obtain ⟨n2, y2, h2⟩ := hf 2 _ rfl
  have h2 : DataW.trod enc Tryz.prog W base sp held n2 40 (([v0, v1, v2].drop 2).take (Tryz.prog.cellsOf 40)) = some y2 := h2
  rw [show Tryz.prog.cellsOf 40 = 1 by kernel_rfl] at h2
  obtain ⟨x2, a2, c2, e2, s2⟩ := op40.2 _ _ _ _ _ _ _ _ _ h2
  have e2 : v2 = _ := List.head_eq_of_cons_eq (show v2 :: [] = _ :: [] from e2)
  exact ⟨⟨x0, x1, x2⟩, a1, c1, a2, c2, by rw [e0, e1, e2] <;> rfl, s1, s2⟩⟩
theorem op22 : Opens Tryz.prog 22 (Rsl RRec) := Opens.slice Tryz.underlying22 (by kernel_rfl) op42 (by decide)
theorem GG_of_laid {W : World} (h : laidMetH Tryz.prog Rows.recordTellsRow.laid W) : GG W := by
  obtain ⟨h1, h2⟩ := laidMetH_iff.1 h
  have h3 := h1.filter (fun x => x.1 == "internal/strconv.uint64pow10")
  refine ⟨Lib.tabIs_of_head (g := 0) (t := 132) (e := 115) (n := 20) (by kernel_rfl) (by kernel_rfl) Tryz.underlying132 Tryz.underlying115 (by kernel_rfl) (by kernel_rfl) (rest := []) h3, ?_⟩
  obtain ⟨name, u, ty, e1, e2, e3, e4, e5⟩ := h2 _ (List.mem_singleton.2 rfl)
  have en : name = [101, 114, 114, 111, 114] := (Option.some.inj e1).symm
  subst en
  obtain rfl := Option.some.inj ((show (Tryz.prog.cutTypes.find? (·.1 == "internal/reflectlite.rtype")).map (·.2) = some 150 by kernel_rfl).symm.trans e2)
  have hm : ty ∈ (List.range 192).filter fun t => Tryz.prog.rowNamed t [101, 114, 114, 111, 114] := List.mem_filter.2 ⟨List.mem_range.2 (by rw [← show Tryz.prog.types.size = 192 by kernel_rfl]; exact e3), e4⟩
  rw [show ((List.range 192).filter fun t => Tryz.prog.rowNamed t [101, 114, 114, 111, 114]) = [93] by kernel_rfl] at hm
  obtain rfl := List.mem_singleton.1 hm
  rw [show typeHandle Tryz.prog 93 = .pointer (some ⟨5, 93, none⟩) by kernel_rfl] at e5
  have := World.var?_cell (g := 1) (by kernel_rfl) e5 0
  simpa using this
theorem GG_kept {W W' : World} (h : GG W) (hk : Kept W (fun _ => False) W') : GG W' := ⟨kept_var hk h.1, kept_cell hk h.2⟩
/-- a world in which the listed variables are as they are laid -/
noncomputable def laidWorld (os : Os) : World :=
  let w0 := World.holding Tryz.prog os ⟨#[], #[], []⟩
  let lay (h : Array Obj) (g : Nat) (cs : Array Value) : Array Obj := h.modify g fun
      | .cells _ t frozen => .cells cs t frozen
      | o => o
  let H0 := w0.heap
  let H1 := lay H0 3 (cellsOfData (H := Unit) .u8 Rows.laid_math_bits_deBruijn32tab)
  let H2 := lay H1 4 (cellsOfData (H := Unit) .u8 Rows.laid_math_bits_deBruijn64tab)
  let H3 := lay H2 0 (cellsOfData (H := Unit) .u64 Rows.laid_internal_strconv_uint64pow10)
  let H4 := lay H3 1 #[.iface 150 (.agg #[.pointer (some ⟨5, 93, none⟩)])]
  { w0 with heap := H4 }
theorem laidWorld_met (os : Os) (args : Array Value) : laidMetH Tryz.prog Rows.recordTellsRow.laid ((laidWorld os).forCall (fun _ _ => 0) ⟨#[], args, []⟩).memory :=
  laidMetH_of_parts (laidMet_of_run' 4 (by kernel_rfl) (by kernel_rfl)) (by kernel_rfl)
set_option maxRecDepth 100000 in
theorem law_lifted (os : Os) (started : os.Started) (H : Type) (enc : TypeId × Value → H) :
    ReturnsInHanded {} Tryz.checked os 3 .any (fun w args => (Rows.recordTellsSpec.pre enc Tryz.prog Tryz.f3 [] false w args ∧ laidMetH Tryz.prog Rows.recordTellsRow.laid w) ∧ sizedMet enc Tryz.prog Tryz.f3 (OpenSpec.ofChange Rows.recordTellsSpec) false w args)
      (Rows.recordTellsSpec.post enc Tryz.prog Tryz.f3 false true false false) := by
  refine lift_law (C := Tryz.checked) (tb := 4) (by kernel_rfl) started (by kernel_rfl) Tryz.func3
    (ChangeSpec.witness_at (enc := enc) (C := Tryz.checked) (os := os) (X := fun w _ => laidMetH Tryz.prog Rows.recordTellsRow.laid w) false (laidWorld os) #[.slice none 0 0, .string ⟨#[]⟩] 8 rfl (by kernel_rfl) (by kernel_rfl) (by kernel_rfl) (by kernel_rfl) (by kernel_rfl) (laidWorld_met os _))
    rfl (by kernel_rfl) ?_ rfl Tryz.underlying4 ?_ ?_
  · have : (Tryz.f3.params.toList.all fun t => Tryz.prog.readableRec t && decide (t < Tryz.prog.types.size)) = true := by kernel_rfl
    intro t ht
    have h2 := List.all_eq_true.1 this t ht
    exact ⟨((Bool.and_eq_true _ _).mp h2).1, of_decide_eq_true ((Bool.and_eq_true _ _).mp h2).2⟩
  · intro ds
    by_cases h : ds.length = 2
    · left
      obtain ⟨d0, d1, rfl⟩ := list2 h
      rfl
    · right
      exact h
  · intro W base args ds p hval hA hL
    have hA : DataW.TrodAll enc Tryz.prog W 0 (fun _ => true) true [22, 9] args.toList ds p := hA
    obtain ⟨v0, v1, d0, d1, p0, p1, rfl, rfl, rfl, h0, h1⟩ := trodAll_two hA
    obtain ⟨x0, a0, c0, rfl, s0⟩ := open_sl Tryz.underlying22 op22 (hval 0 22 v0 rfl rfl) h0
    obtain ⟨x1, rfl, k1⟩ := open_str Tryz.underlying9 (hval 1 9 v1 rfl rfl) h1
    exact (law_RecordTells x0 a0 c0 x1).begins (fun w hk => GG_kept (GG_of_laid hL) hk) s0
end Go.Stet
namespace Go.Proofs.YtejombkbijackaaGreatDoor
open Go Go.Stet
theorem recordTells_row : Rows.RecordTellsSaid :=
  OpenClaim.holds_of_wide 3 Tryz.f3 rfl rfl rfl rfl rfl rfl rfl ⟨rfl, rfl, rfl, rfl, rfl⟩ rfl rfl rfl rfl rfl (by kernel_rfl) Tryz.func3 (by kernel_rfl)
    (of_decide_eq_true (by kernel_rfl)) (by unfold Func.isWrapper; rw [if_neg (of_decide_eq_false (by kernel_rfl))]; exact ⟨rfl, rfl⟩)
    (fun os started H enc _ => law_lifted os started H enc)
theorem recordTells_holds : Rows.RecordTellsCardSaid :=
  Claim7.holds_tied_plain_at .later [] [.data, .data, .data, .handle] true (true, "ed71a63f3a3e5da76d9b3e55acf2f7b01a2e33c67d0d1bd4feb4da062e0a11eb") true
    recordTells_row (fun _ h => by cases h) (by kernel_rfl) (fun _ h => by cases h) recordTells_row_tie rfl ⟨rfl, rfl⟩ (by kernel_rfl) rfl
    (fun f fn hf hfn => by
      obtain rfl : f = 3 := Option.some.inj ((show Tryz.prog.funcNamed "stet/stetlaw20.RecordTells" = some 3 by kernel_rfl).symm.trans hf) |>.symm
      obtain rfl : fn = Tryz.f3 := (Option.some.inj (Tryz.func3.symm.trans hfn)).symm
      exact ⟨by kernel_rfl, fun j t ht => by
        have h3 : t ∈ [22, 9] := List.mem_of_getElem? (i := j) (by simpa using ht)
        have : ([22, 9].all fun t => Tryz.prog.wantsStandIn t == false) = true := by kernel_rfl
        exact beq_iff_eq.1 (List.all_eq_true.1 this t h3)⟩)
    (by kernel_rfl)
#print axioms recordTells_holds
end Go.Proofs.YtejombkbijackaaGreatDoor
