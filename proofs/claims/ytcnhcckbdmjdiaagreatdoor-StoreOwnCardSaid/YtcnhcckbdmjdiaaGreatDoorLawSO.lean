/- The row of StoreOwn: for every input the law returns true, and each argument reads behind the call as it did before. The listed variables are as the card ties them. -/
import Derived.Test.YtcnhcckbdmjdiaaGreatDoorEng14
import Derived.Test.YtcnhcckbdmjdiaaGreatDoorS14
import Derived.Test.YtcnhcckbdmjdiaaGreatDoorRows
import Derived.Test.YtcnhcckbdmjdiaaGreatDoorCards
import Derived.Test.YtcnhcckbdmjdiaaGreatDoorTie
set_option linter.all false
set_option linter.unusedSimpArgs false
set_option linter.unusedVariables false
namespace Go.Stet
open Go Go.Eng Go.Proofs Go.Proofs.YtcnhcckbdmjdiaaGreatDoor Go.ChangeShapes Go.WideShapes Go.RowKit
theorem op9 : Opens Tryz.prog 9 Rstr okStr := Opens.str Tryz.underlying9 (by kernel_rfl)
def ok29 (x : File) : Prop := okStr x.name ∧ okStr x.text
theorem op29 : Opens Tryz.prog 29 RFile ok29 := ⟨by kernel_rfl, fun H enc W base sp held fuel cs x hx => by
  obtain ⟨hl, hf⟩ := trod_parts Tryz.underlying29 hx
  have hl : cs.length = 2 := hl.trans (by kernel_rfl)
  obtain ⟨v0, v1, rfl⟩ := list2 hl
  obtain ⟨n0, y0, h0⟩ := hf 0 _ rfl
  have h0 : DataW.trod enc Tryz.prog W base sp held n0 9 (([v0, v1].drop 0).take (Tryz.prog.cellsOf 9)) = some y0 := h0
  rw [show Tryz.prog.cellsOf 9 = 1 by kernel_rfl] at h0
  obtain ⟨x0, e0, k0⟩ := op9.2 _ _ _ _ _ _ _ _ _ h0
  have e0 : v0 = _ := List.head_eq_of_cons_eq (show v0 :: [] = _ :: [] from e0)
  obtain ⟨n1, y1, h1⟩ := hf 1 _ rfl
  have h1 : DataW.trod enc Tryz.prog W base sp held n1 9 (([v0, v1].drop 1).take (Tryz.prog.cellsOf 9)) = some y1 := h1
  rw [show Tryz.prog.cellsOf 9 = 1 by kernel_rfl] at h1
  obtain ⟨x1, e1, k1⟩ := op9.2 _ _ _ _ _ _ _ _ _ h1
  have e1 : v1 = _ := List.head_eq_of_cons_eq (show v1 :: [] = _ :: [] from e1)
  exact ⟨⟨x0, x1⟩, (by rw [e0, e1] <;> rfl), k0, k1⟩⟩
theorem op30 : Opens Tryz.prog 30 (Rsl RFile) (okList ok29) := Opens.slice Tryz.underlying30 (by kernel_rfl) op29 (by decide)
theorem GG_of_laid {W : World} (h : laidMetH Tryz.prog Rows.storeOwnRow.laid W) : GG W := by
  obtain ⟨h1, h2⟩ := laidMetH_iff.1 h
  have h3 := h1.filter (fun x => x.1 == "internal/strconv.uint64pow10")
  refine ⟨Lib.tabIs_of_head (g := 3) (t := 144) (e := 125) (n := 20) (by kernel_rfl) (by kernel_rfl) Tryz.underlying144 Tryz.underlying125 (by kernel_rfl) (by kernel_rfl) (rest := []) h3, ?_⟩
  obtain ⟨name, u, ty, e1, e2, e3, e4, e5⟩ := h2 _ (List.mem_singleton.2 rfl)
  have en : name = [101, 114, 114, 111, 114] := (Option.some.inj e1).symm
  subst en
  obtain rfl := Option.some.inj ((show (Tryz.prog.cutTypes.find? (·.1 == "internal/reflectlite.rtype")).map (·.2) = some 165 by kernel_rfl).symm.trans e2)
  have hm : ty ∈ (List.range 206).filter fun t => Tryz.prog.rowNamed t [101, 114, 114, 111, 114] := List.mem_filter.2 ⟨List.mem_range.2 (by rw [← show Tryz.prog.types.size = 206 by kernel_rfl]; exact e3), e4⟩
  rw [show ((List.range 206).filter fun t => Tryz.prog.rowNamed t [101, 114, 114, 111, 114]) = [90] by kernel_rfl] at hm
  obtain rfl := List.mem_singleton.1 hm
  rw [show typeHandle Tryz.prog 90 = .pointer (some ⟨7, 90, none⟩) by kernel_rfl] at e5
  have := World.var?_cell (g := 4) (by kernel_rfl) e5 0
  simpa using this
theorem GG_kept {W W' : World} (h : GG W) (hk : Kept W (fun _ => False) W') : GG W' := ⟨kept_var hk h.1, kept_cell hk h.2⟩
/-- a world in which the listed variables are as they are laid -/
noncomputable def laidWorld (os : Os) : World :=
  let w0 := World.holding Tryz.prog os ⟨#[], #[], []⟩
  let lay (h : Array Obj) (g : Nat) (cs : Array Value) : Array Obj := h.modify g fun
      | .cells _ t frozen => .cells cs t frozen
      | o => o
  let H0 := w0.heap
  let H1 := lay H0 5 (cellsOfData (H := Unit) .u8 Rows.laid_math_bits_deBruijn32tab)
  let H2 := lay H1 6 (cellsOfData (H := Unit) .u8 Rows.laid_math_bits_deBruijn64tab)
  let H3 := lay H2 3 (cellsOfData (H := Unit) .u64 Rows.laid_internal_strconv_uint64pow10)
  let H4 := lay H3 4 #[.iface 165 (.agg #[.pointer (some ⟨7, 90, none⟩)])]
  let H5 := lay (H4.push (.cells #[.string ⟨#[118, 97, 108, 117, 101, 32, 111, 117, 116, 32, 111, 102, 32, 114, 97, 110, 103, 101]⟩] 162 (0, 0))) 1 #[.iface 160 (.pointer (some ⟨H4.size, 0, none⟩))]
  let H6 := lay (H5.push (.cells #[.string ⟨#[105, 110, 118, 97, 108, 105, 100, 32, 115, 121, 110, 116, 97, 120]⟩] 162 (0, 0))) 0 #[.iface 160 (.pointer (some ⟨H5.size, 0, none⟩))]
  { w0 with heap := H6 }
theorem laidWorld_met (os : Os) (args : Array Value) : laidMetH Tryz.prog Rows.storeOwnRow.laid ((laidWorld os).forCall (fun _ _ => 0) ⟨#[], args, []⟩).memory :=
  laidMetH_of_parts (laidMet_of_run' 4 (by kernel_rfl) (by kernel_rfl)) (by kernel_rfl)
set_option maxRecDepth 100000 in
theorem law_lifted (os : Os) (started : os.Started) (H : Type) (enc : TypeId × Value → H) :
    ReturnsInHanded {} Tryz.checked os 4 .any (fun w args => (Rows.storeOwnSpec.pre enc Tryz.prog Tryz.f4 [] false w args ∧ laidMetH Tryz.prog Rows.storeOwnRow.laid w) ∧ sizedMet enc Tryz.prog Tryz.f4 (OpenSpec.ofChange Rows.storeOwnSpec) false w args)
      (Rows.storeOwnSpec.post enc Tryz.prog Tryz.f4 false true false false) := by
  refine lift_law (C := Tryz.checked) (tb := 4) (by kernel_rfl) started (by kernel_rfl) Tryz.func4
    (ChangeSpec.witness_at (enc := enc) (C := Tryz.checked) (os := os) (X := fun w _ => laidMetH Tryz.prog Rows.storeOwnRow.laid w) false (laidWorld os) #[.slice none 0 0] 8 rfl (by kernel_rfl) (by kernel_rfl) (by kernel_rfl) (by kernel_rfl) (by kernel_rfl) (laidWorld_met os _))
    rfl (by kernel_rfl) ?_ rfl Tryz.underlying4 ?_ ?_
  · have : (Tryz.f4.params.toList.all fun t => Tryz.prog.readableRec t && decide (t < Tryz.prog.types.size)) = true := by kernel_rfl
    intro t ht
    have h2 := List.all_eq_true.1 this t ht
    exact ⟨((Bool.and_eq_true _ _).mp h2).1, of_decide_eq_true ((Bool.and_eq_true _ _).mp h2).2⟩
  · intro ds
    by_cases h : ds.length = 1
    · left
      obtain ⟨d0, rfl⟩ := list1 h
      rfl
    · right
      exact h
  · intro W base args ds p hval hA hL
    have hA : DataW.TrodAll enc Tryz.prog W 0 (fun _ => true) true [30] args.toList ds p := hA
    obtain ⟨v0, d0, rfl, rfl, h0⟩ := trodAll_one hA
    obtain ⟨x0, a0, c0, rfl, s0, k0⟩ := open_sl Tryz.underlying30 op30 (hval 0 30 v0 rfl rfl) h0
    exact (law_StoreOwn x0 a0 c0 (fun x hx => (k0.2 x hx).1)).begins (fun w hk => GG_kept (GG_of_laid hL) hk) s0
end Go.Stet
namespace Go.Proofs.YtcnhcckbdmjdiaaGreatDoor
open Go Go.Stet
theorem storeOwn_row : Rows.StoreOwnSaid :=
  OpenClaim.holds_of_wide 4 Tryz.f4 rfl rfl rfl rfl rfl rfl rfl ⟨rfl, rfl, rfl, rfl, rfl⟩ rfl rfl rfl rfl rfl (by kernel_rfl) Tryz.func4 (by kernel_rfl)
    (of_decide_eq_true (by kernel_rfl)) (by unfold Func.isWrapper; rw [if_neg (of_decide_eq_false (by kernel_rfl))]; exact ⟨rfl, rfl⟩)
    (fun os started H enc _ => law_lifted os started H enc)
theorem storeOwn_holds : Rows.StoreOwnCardSaid :=
  Claim7.holds_tied_plain_at .later [] [.data, .data, .data, .handle, .sentinel, .sentinel] true (true, "f7dc810100a8bbfcc1c7bf97b5ec293ccd76c893cb41e2287e57b9bccfb87501") true
    storeOwn_row (fun _ h => by cases h) (by kernel_rfl) (fun _ h => by cases h) storeOwn_row_tie rfl ⟨rfl, rfl⟩ (by kernel_rfl) rfl
    (fun f fn hf hfn => by
      obtain rfl : f = 4 := Option.some.inj ((show Tryz.prog.funcNamed "stet/stetlaw05.StoreOwn" = some 4 by kernel_rfl).symm.trans hf) |>.symm
      obtain rfl : fn = Tryz.f4 := (Option.some.inj (Tryz.func4.symm.trans hfn)).symm
      exact ⟨by kernel_rfl, fun j t ht => by
        have h3 : t ∈ [30] := List.mem_of_getElem? (i := j) (by simpa using ht)
        have : ([30].all fun t => Tryz.prog.wantsStandIn t == false) = true := by kernel_rfl
        exact beq_iff_eq.1 (List.all_eq_true.1 this t h3)⟩)
    (by kernel_rfl)
#print axioms storeOwn_holds
end Go.Proofs.YtcnhcckbdmjdiaaGreatDoor
