/- The row of RecordLooks: for every input the law returns true, and each argument reads behind the call as it did before. The listed variables are as the card ties them. -/
import Derived.Test.YtejombkbijackaaDoorEng14
import Derived.Test.YtejombkbijackaaDoorD17
import Derived.Test.YtejombkbijackaaDoorRows
import Derived.Test.YtejombkbijackaaDoorCards
import Derived.Test.YtejombkbijackaaDoorTie
set_option linter.all false
set_option linter.unusedSimpArgs false
set_option linter.unusedVariables false
namespace Go.Stet
open Go Go.Eng Go.Proofs Go.Proofs.YtejombkbijackaaDoor Go.ChangeShapes Go.WideShapes Go.RowKit
theorem op9 : Opens Tryd.prog 9 Rstr okStr := Opens.str Tryd.underlying9 (by kernel_rfl)
theorem op4 : Opens Tryd.prog 4 Rbool okAny := Opens.bool Tryd.underlying4 (by kernel_rfl)
def ok51 (x : Seen) : Prop := okStr x.name ∧ okAny x.there ∧ okStr x.text
theorem op51 : Opens Tryd.prog 51 RSeen ok51 := ⟨by kernel_rfl, fun H enc W base sp held fuel cs x hx => by
  obtain ⟨hl, hf⟩ := trod_parts Tryd.underlying51 hx
  have hl : cs.length = 3 := hl.trans (by kernel_rfl)
  obtain ⟨v0, v1, v2, rfl⟩ := list3 hl
  obtain ⟨n0, y0, h0⟩ := hf 0 _ rfl
  have h0 : DataW.trod enc Tryd.prog W base sp held n0 9 (([v0, v1, v2].drop 0).take (Tryd.prog.cellsOf 9)) = some y0 := h0
  rw [show Tryd.prog.cellsOf 9 = 1 by kernel_rfl] at h0
  obtain ⟨x0, e0, k0⟩ := op9.2 _ _ _ _ _ _ _ _ _ h0
  have e0 : v0 = _ := List.head_eq_of_cons_eq (show v0 :: [] = _ :: [] from e0)
  obtain ⟨n1, y1, h1⟩ := hf 1 _ rfl
  have h1 : DataW.trod enc Tryd.prog W base sp held n1 4 (([v0, v1, v2].drop 1).take (Tryd.prog.cellsOf 4)) = some y1 := h1
  rw [show Tryd.prog.cellsOf 4 = 1 by kernel_rfl] at h1
  obtain ⟨x1, e1, k1⟩ := op4.2 _ _ _ _ _ _ _ _ _ h1
  have e1 : v1 = _ := List.head_eq_of_cons_eq (show v1 :: [] = _ :: [] from e1)
  obtain ⟨n2, y2, h2⟩ := hf 2 _ rfl
  have h2 : DataW.trod enc Tryd.prog W base sp held n2 9 (([v0, v1, v2].drop 2).take (Tryd.prog.cellsOf 9)) = some y2 := h2
  rw [show Tryd.prog.cellsOf 9 = 1 by kernel_rfl] at h2
  obtain ⟨x2, e2, k2⟩ := op9.2 _ _ _ _ _ _ _ _ _ h2
  have e2 : v2 = _ := List.head_eq_of_cons_eq (show v2 :: [] = _ :: [] from e2)
  exact ⟨⟨x0, x1, x2⟩, (by rw [e0, e1, e2] <;> rfl), k0, k1, k2⟩⟩
theorem op30 : Opens Tryd.prog 30 (Rsl RSeen) (okList ok51) := Opens.slice Tryd.underlying30 (by kernel_rfl) op51 (by decide)
def ok53 (x : File) : Prop := okStr x.name ∧ okStr x.text
theorem op53 : Opens Tryd.prog 53 RFile ok53 := ⟨by kernel_rfl, fun H enc W base sp held fuel cs x hx => by
  obtain ⟨hl, hf⟩ := trod_parts Tryd.underlying53 hx
  have hl : cs.length = 2 := hl.trans (by kernel_rfl)
  obtain ⟨v0, v1, rfl⟩ := list2 hl
  obtain ⟨n0, y0, h0⟩ := hf 0 _ rfl
  have h0 : DataW.trod enc Tryd.prog W base sp held n0 9 (([v0, v1].drop 0).take (Tryd.prog.cellsOf 9)) = some y0 := h0
  rw [show Tryd.prog.cellsOf 9 = 1 by kernel_rfl] at h0
  obtain ⟨x0, e0, k0⟩ := op9.2 _ _ _ _ _ _ _ _ _ h0
  have e0 : v0 = _ := List.head_eq_of_cons_eq (show v0 :: [] = _ :: [] from e0)
  obtain ⟨n1, y1, h1⟩ := hf 1 _ rfl
  have h1 : DataW.trod enc Tryd.prog W base sp held n1 9 (([v0, v1].drop 1).take (Tryd.prog.cellsOf 9)) = some y1 := h1
  rw [show Tryd.prog.cellsOf 9 = 1 by kernel_rfl] at h1
  obtain ⟨x1, e1, k1⟩ := op9.2 _ _ _ _ _ _ _ _ _ h1
  have e1 : v1 = _ := List.head_eq_of_cons_eq (show v1 :: [] = _ :: [] from e1)
  exact ⟨⟨x0, x1⟩, (by rw [e0, e1] <;> rfl), k0, k1⟩⟩
theorem op23 : Opens Tryd.prog 23 (Rsl RFile) (okList ok53) := Opens.slice Tryd.underlying23 (by kernel_rfl) op53 (by decide)
def ok35 (x : Rec) : Prop := okStr x.name ∧ (okList ok51) x.seens ∧ (okList ok53) x.files
theorem op35 : Opens Tryd.prog 35 RRec ok35 := ⟨by kernel_rfl, fun H enc W base sp held fuel cs x hx => by
  obtain ⟨hl, hf⟩ := trod_parts Tryd.underlying35 hx
  have hl : cs.length = 3 := hl.trans (by kernel_rfl)
  obtain ⟨v0, v1, v2, rfl⟩ := list3 hl
  obtain ⟨n0, y0, h0⟩ := hf 0 _ rfl
  have h0 : DataW.trod enc Tryd.prog W base sp held n0 9 (([v0, v1, v2].drop 0).take (Tryd.prog.cellsOf 9)) = some y0 := h0
  rw [show Tryd.prog.cellsOf 9 = 1 by kernel_rfl] at h0
  obtain ⟨x0, e0, k0⟩ := op9.2 _ _ _ _ _ _ _ _ _ h0
  have e0 : v0 = _ := List.head_eq_of_cons_eq (show v0 :: [] = _ :: [] from e0)
  obtain ⟨n1, y1, h1⟩ := hf 1 _ rfl
  have h1 : DataW.trod enc Tryd.prog W base sp held n1 30 (([v0, v1, v2].drop 1).take (Tryd.prog.cellsOf 30)) = some y1 := h1
  rw [show Tryd.prog.cellsOf 30 = 1 by kernel_rfl] at h1
  obtain ⟨x1, ⟨a1, c1, e1, s1⟩, k1⟩ := op30.2 _ _ _ _ _ _ _ _ _ h1
  have e1 : v1 = _ := List.head_eq_of_cons_eq (show v1 :: [] = _ :: [] from e1)
  obtain ⟨n2, y2, h2⟩ := hf 2 _ rfl
  have h2 : DataW.trod enc Tryd.prog W base sp held n2 23 (([v0, v1, v2].drop 2).take (Tryd.prog.cellsOf 23)) = some y2 := h2
  rw [show Tryd.prog.cellsOf 23 = 1 by kernel_rfl] at h2
  obtain ⟨x2, ⟨a2, c2, e2, s2⟩, k2⟩ := op23.2 _ _ _ _ _ _ _ _ _ h2
  have e2 : v2 = _ := List.head_eq_of_cons_eq (show v2 :: [] = _ :: [] from e2)
  exact ⟨⟨x0, x1, x2⟩, ⟨a1, c1, a2, c2, by rw [e0, e1, e2] <;> rfl, s1, s2⟩, k0, k1, k2⟩⟩
theorem op22 : Opens Tryd.prog 22 (Rsl RRec) (okList ok35) := Opens.slice Tryd.underlying22 (by kernel_rfl) op35 (by decide)
theorem op24 : Opens Tryd.prog 24 (Rsl Rstr) (okList okStr) := Opens.slice Tryd.underlying24 (by kernel_rfl) op9 (by decide)
theorem GG_of_laid {W : World} (h : laidMetH Tryd.prog Rows.recordLooksRow.laid W) : GG W := by
  obtain ⟨h1, h2⟩ := laidMetH_iff.1 h
  have h3 := h1.filter (fun x => x.1 == "internal/strconv.uint64pow10")
  refine ⟨Lib.tabIs_of_head (g := 1) (t := 130) (e := 114) (n := 20) (by kernel_rfl) (by kernel_rfl) Tryd.underlying130 Tryd.underlying114 (by kernel_rfl) (by kernel_rfl) (rest := []) h3, ?_⟩
  obtain ⟨name, u, ty, e1, e2, e3, e4, e5⟩ := h2 _ (List.mem_singleton.2 rfl)
  have en : name = [101, 114, 114, 111, 114] := (Option.some.inj e1).symm
  subst en
  obtain rfl := Option.some.inj ((show (Tryd.prog.cutTypes.find? (·.1 == "internal/reflectlite.rtype")).map (·.2) = some 148 by kernel_rfl).symm.trans e2)
  have hm : ty ∈ (List.range 190).filter fun t => Tryd.prog.rowNamed t [101, 114, 114, 111, 114] := List.mem_filter.2 ⟨List.mem_range.2 (by rw [← show Tryd.prog.types.size = 190 by kernel_rfl]; exact e3), e4⟩
  rw [show ((List.range 190).filter fun t => Tryd.prog.rowNamed t [101, 114, 114, 111, 114]) = [102] by kernel_rfl] at hm
  obtain rfl := List.mem_singleton.1 hm
  rw [show typeHandle Tryd.prog 102 = .pointer (some ⟨5, 102, none⟩) by kernel_rfl] at e5
  have := World.var?_cell (g := 2) (by kernel_rfl) e5 0
  simpa using this
theorem GG_kept {W W' : World} (h : GG W) (hk : Kept W (fun _ => False) W') : GG W' := ⟨kept_var hk h.1, kept_cell hk h.2⟩
/-- a world in which the listed variables are as they are laid -/
noncomputable def laidWorld (os : Os) : World :=
  let w0 := World.holding Tryd.prog os ⟨#[], #[], []⟩
  let lay (h : Array Obj) (g : Nat) (cs : Array Value) : Array Obj := h.modify g fun
      | .cells _ t frozen => .cells cs t frozen
      | o => o
  let H0 := w0.heap
  let H1 := lay H0 3 (cellsOfData (H := Unit) .u8 Rows.laid_math_bits_deBruijn32tab)
  let H2 := lay H1 4 (cellsOfData (H := Unit) .u8 Rows.laid_math_bits_deBruijn64tab)
  let H3 := lay H2 1 (cellsOfData (H := Unit) .u64 Rows.laid_internal_strconv_uint64pow10)
  let H4 := lay H3 2 #[.iface 148 (.agg #[.pointer (some ⟨5, 102, none⟩)])]
  { w0 with heap := H4 }
theorem laidWorld_met (os : Os) (args : Array Value) : laidMetH Tryd.prog Rows.recordLooksRow.laid ((laidWorld os).forCall (fun _ _ => 0) ⟨#[], args, []⟩).memory :=
  laidMetH_of_parts (laidMet_of_run' 4 (by kernel_rfl) (by kernel_rfl)) (by kernel_rfl)
set_option maxRecDepth 100000 in
theorem law_lifted (os : Os) (started : os.Started) (H : Type) (enc : TypeId × Value → H) :
    ReturnsInHanded {} Tryd.checked os 3 .any (fun w args => (Rows.recordLooksSpec.pre enc Tryd.prog Tryd.f3 [] false w args ∧ laidMetH Tryd.prog Rows.recordLooksRow.laid w) ∧ sizedMet enc Tryd.prog Tryd.f3 (OpenSpec.ofChange Rows.recordLooksSpec) false w args)
      (Rows.recordLooksSpec.post enc Tryd.prog Tryd.f3 false true false false) := by
  refine lift_law (C := Tryd.checked) (tb := 4) (by kernel_rfl) started (by kernel_rfl) Tryd.func3
    (ChangeSpec.witness_at (enc := enc) (C := Tryd.checked) (os := os) (X := fun w _ => laidMetH Tryd.prog Rows.recordLooksRow.laid w) false (laidWorld os) #[.slice none 0 0, .slice none 0 0, .slice none 0 0] 8 rfl (by kernel_rfl) (by kernel_rfl) (by kernel_rfl) (by kernel_rfl) (by kernel_rfl) (laidWorld_met os _))
    rfl (by kernel_rfl) ?_ rfl Tryd.underlying4 ?_ ?_
  · have : (Tryd.f3.params.toList.all fun t => Tryd.prog.readableRec t && decide (t < Tryd.prog.types.size)) = true := by kernel_rfl
    intro t ht
    have h2 := List.all_eq_true.1 this t ht
    exact ⟨((Bool.and_eq_true _ _).mp h2).1, of_decide_eq_true ((Bool.and_eq_true _ _).mp h2).2⟩
  · intro ds
    by_cases h : ds.length = 3
    · left
      obtain ⟨d0, d1, d2, rfl⟩ := list3 h
      rfl
    · right
      exact h
  · intro W base args ds p hval hA hL
    have hA : DataW.TrodAll enc Tryd.prog W 0 (fun _ => true) true [22, 23, 24] args.toList ds p := hA
    obtain ⟨v0, v1, v2, d0, d1, d2, p0, p1, p2, rfl, rfl, rfl, h0, h1, h2⟩ := trodAll_three hA
    obtain ⟨x0, a0, c0, rfl, s0, k0⟩ := open_sl Tryd.underlying22 op22 (hval 0 22 v0 rfl rfl) h0
    obtain ⟨x1, a1, c1, rfl, s1, k1⟩ := open_sl Tryd.underlying23 op23 (hval 1 23 v1 rfl rfl) h1
    obtain ⟨x2, a2, c2, rfl, s2, k2⟩ := open_sl Tryd.underlying24 op24 (hval 2 24 v2 rfl rfl) h2
    exact (law_RecordLooks x0 a0 c0 x1 a1 c1 x2 a2 c2 (fun x hx => (k1.2 x hx).1)).begins (fun w hk => GG_kept (GG_of_laid hL) hk) ⟨s0, s1, s2⟩
end Go.Stet
namespace Go.Proofs.YtejombkbijackaaDoor
open Go Go.Stet
theorem recordLooks_row : Rows.RecordLooksSaid :=
  OpenClaim.holds_of_wide 3 Tryd.f3 rfl rfl rfl rfl rfl rfl rfl ⟨rfl, rfl, rfl, rfl, rfl⟩ rfl rfl rfl rfl rfl (by kernel_rfl) Tryd.func3 (by kernel_rfl)
    (of_decide_eq_true (by kernel_rfl)) (by unfold Func.isWrapper; rw [if_neg (of_decide_eq_false (by kernel_rfl))]; exact ⟨rfl, rfl⟩)
    (fun os started H enc _ => law_lifted os started H enc)
theorem recordLooks_holds : Rows.RecordLooksCardSaid :=
  Claim7.holds_tied_plain_at .later [] [.data, .data, .data, .handle] true (true, "dd2f1fcdb3be82eb7cc0106f74f207208385c7d966ef050f299f6ae8df2a3923") true
    recordLooks_row (fun _ h => by cases h) (by kernel_rfl) (fun _ h => by cases h) recordLooks_row_tie rfl ⟨rfl, rfl⟩ (by kernel_rfl) rfl
    (fun f fn hf hfn => by
      obtain rfl : f = 3 := Option.some.inj ((show Tryd.prog.funcNamed "stet/stetlaw20.RecordLooks" = some 3 by kernel_rfl).symm.trans hf) |>.symm
      obtain rfl : fn = Tryd.f3 := (Option.some.inj (Tryd.func3.symm.trans hfn)).symm
      exact ⟨by kernel_rfl, fun j t ht => by
        have h3 : t ∈ [22, 23, 24] := List.mem_of_getElem? (i := j) (by simpa using ht)
        have : ([22, 23, 24].all fun t => Tryd.prog.wantsStandIn t == false) = true := by kernel_rfl
        exact beq_iff_eq.1 (List.all_eq_true.1 this t h3)⟩)
    (by kernel_rfl)
#print axioms recordLooks_holds
end Go.Proofs.YtejombkbijackaaDoor
