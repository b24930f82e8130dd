/- A part of the proof engine: rules for steps of the machine over frames and memory. Each under the conditions that its own statement names. -/
import Derived.Test.YtejombkbijackaaDoorSeatD2
import Derived.Test.YtejombkbijackaaDoorBldD
import Derived.Test.YtejombkbijackaaDoorEng15
import Derived.Test.YtejombkbijackaaDoorSpec12
import Derived.Test.YtejombkbijackaaDoorD15
set_option linter.all false
set_option linter.unusedSimpArgs false
set_option linter.unusedVariables false
namespace Go.Stet
open Go Go.Eng Go.Proofs
set_option maxHeartbeats 1000000 in
theorem law_fixed   : PureC GG Tryd.prog 18 (fun _ => True) [] (.bool (true)) := by
  intro Γ h L w hpre hS
  have hfm : fm1.length = 2 := rfl
  have hz1 := fx_sz
  refine Ret.body Tryd.func18 rfl Tryd.ntmps18 (Nat.le_of_ble_eq_true rfl) ?_
  refine WC.seq ?_
  refine WC.region ?_
  refine WL.val1 (R_assign (v := .bool (false)) rfl) ?_
  refine WL.nil ?_
  refine then_normal ?_
  refine WC.seq ?_
  refine WC.region ?_
  refine WL.val1 (R_build (vs := [(0, .string (B (([97] : Str))))]) (v := .agg #[.string (B (([97] : Str))), .bool (false), .string (B (([] : Str)))]) rfl (fun _ => by kernel_rfl)) ?_
  refine WL.val1 (R_build (vs := [(0, .string (B (([98] : Str)))), (1, .bool (true)), (2, .string (B (([116] : Str))))]) (v := .agg #[.string (B (([98] : Str))), .bool (true), .string (B (([116] : Str)))]) rfl (fun _ => by kernel_rfl)) ?_
  refine S_buildSliceC (R := RSeen) (m := 2) (vs := [(0, .agg #[.string (B (([97] : Str))), .bool (false), .string (B (([] : Str)))]), (1, .agg #[.string (B (([98] : Str))), .bool (true), .string (B (([116] : Str)))])]) (cells := [.string (B (([97] : Str))), .bool (false), .string (B (([] : Str))), .string (B (([98] : Str))), .bool (true), .string (B (([116] : Str)))]) (xs := [{ name := ([97] : Str), there := false, text := ([] : Str) : Seen }, { name := ([98] : Str), there := true, text := ([116] : Str) : Seen }]) hS Tryd.underlying30 Tryd.sizeOf51 Tryd.zeroValue51 (by decide) (by decide) rfl (by kernel_rfl) (by exact (⟨[.string (B (([97] : Str))), .bool (false), .string (B (([] : Str)))], _, rfl, rfl, ⟨[.string (B (([98] : Str))), .bool (true), .string (B (([116] : Str)))], _, rfl, rfl, rfl⟩⟩ : Flat RSeen _ [{ name := ([97] : Str), there := false, text := ([] : Str) : Seen }, { name := ([98] : Str), there := true, text := ([116] : Str) : Seen }] _)) rfl ?_
  intro h3 b5 w2 hl4 hs6 hS1
  refine WL.val1 (R_build (vs := [(0, .string (B (([99] : Str)))), (1, .string (B (([117] : Str))))]) (v := .agg #[.string (B (([99] : Str))), .string (B (([117] : Str)))]) rfl (fun _ => by kernel_rfl)) ?_
  refine S_buildSliceC (R := RFile) (m := 1) (vs := [(0, .agg #[.string (B (([99] : Str))), .string (B (([117] : Str)))])]) (cells := [.string (B (([99] : Str))), .string (B (([117] : Str)))]) (xs := [{ name := ([99] : Str), text := ([117] : Str) : File }]) hS1 Tryd.underlying23 Tryd.sizeOf53 Tryd.zeroValue53 (by decide) (by decide) rfl (by kernel_rfl) (by exact (⟨[.string (B (([99] : Str))), .string (B (([117] : Str)))], _, rfl, rfl, rfl⟩ : Flat RFile _ [{ name := ([99] : Str), text := ([117] : Str) : File }] _)) rfl ?_
  intro h9 b11 w8 hl10 hs12 hS7
  refine WL.val1 (R_build (vs := [(0, .string (B (([114] : Str)))), (1, .slice (some ⟨b5, 0, none⟩) 2 (2)), (2, .slice (some ⟨b11, 0, none⟩) 1 (1))]) (v := .agg #[.string (B (([114] : Str))), .slice (some ⟨b5, 0, none⟩) 2 (2), .slice (some ⟨b11, 0, none⟩) 1 (1)]) rfl (fun _ => by kernel_rfl)) ?_
  refine S_alloc hS7 Tryd.zeroValue35 ?_
  intro w14 hS13
  refine S_store (i := 0) (b := w8.heap.size) (l := [.string (B (([] : Str))), .slice none 0 0, .slice none 0 0]) (l' := [.string (B (([114] : Str))), .slice (some ⟨b5, 0, none⟩) 2 (2), .slice (some ⟨b11, 0, none⟩) 1 (1)]) (vs := [.string (B (([114] : Str))), .slice (some ⟨b5, 0, none⟩) 2 (2), .slice (some ⟨b11, 0, none⟩) 1 (1)]) (v := .agg #[.string (B (([114] : Str))), .slice (some ⟨b5, 0, none⟩) 2 (2), .slice (some ⟨b11, 0, none⟩) 1 (1)]) hS13 rfl rfl rfl Tryd.sizeOf35 rfl rfl rfl (Nat.le_of_ble_eq_true rfl) rfl rfl ?_
  intro w16 hS15
  refine WL.nil ?_
  refine then_normal ?_
  refine WC.seq ?_
  refine WC.region ?_
  refine WL.val1 (R_loadA (cs := [.string (B (([114] : Str))), .slice (some ⟨b5, 0, none⟩) 2 (2), .slice (some ⟨b11, 0, none⟩) 1 (1)]) rfl (hS15.has (i := 0) rfl) (Tryd.isAgg35 _) (Tryd.sizeOf35 _) rfl (sub_cells rfl)) ?_
  refine S_buildSliceC (R := RRec) (m := 1) (vs := [(0, .agg #[.string (B (([114] : Str))), .slice (some ⟨b5, 0, none⟩) 2 (2), .slice (some ⟨b11, 0, none⟩) 1 (1)])]) (cells := [.string (B (([114] : Str))), .slice (some ⟨b5, 0, none⟩) 2 (2), .slice (some ⟨b11, 0, none⟩) 1 (1)]) (xs := [fx1]) hS15 Tryd.underlying22 Tryd.sizeOf35 Tryd.zeroValue35 (by decide) (by decide) rfl (by kernel_rfl) (by exact (⟨[.string (B (([114] : Str))), .slice (some ⟨b5, 0, none⟩) 2 (2), .slice (some ⟨b11, 0, none⟩) 1 (1)], _, rfl, ⟨some ⟨b5, 0, none⟩, 2, some ⟨b11, 0, none⟩, 1, rfl, (hs6.mono hl10), hs12⟩, rfl⟩ : Flat RRec _ [fx1] _)) rfl ?_
  intro h19 b21 w18 hl20 hs22 hS17
  refine S_callP (vs := [.slice (some ⟨b21, 0, none⟩) 1 (1)]) hS17 Tryd.call25 rfl (by have k_ := (rec_Encode ([fx1]) (some ⟨b21, 0, none⟩) (1) (by first | assumption | omega | decide +kernel)); simp only [fx_enc] at k_; exact k_) (by exact hs22) ?_
  intro w24 hS23
  refine WL.val1 (R_move (v := .tuple #[.string (B (fs1)), .int .i64 (0)]) rfl) ?_
  refine WL.val1 (R_extract (vs := ([.string (B (fs1)), .int .i64 (0)] : List Value).toArray) (v := .string (B (fs1))) rfl rfl) ?_
  refine WL.val1 (R_extract (vs := ([.string (B (fs1)), .int .i64 (0)] : List Value).toArray) (v := .int .i64 (0)) rfl rfl) ?_
  refine WL.val1 (R_assign (v := .string (B (fs1))) rfl) ?_
  refine WL.val1 (R_assign (v := .int .i64 (0)) rfl) ?_
  refine WL.nil ?_
  refine then_normal ?_
  refine WC.seq ?_
  refine WC.region ?_
  refine WL.val1 (R_move (v := .string (B (fs1))) rfl) ?_
  refine S_callF (vs := [.string (B (fs1))]) hS23 Tryd.call26 rfl (by have k_ := (rec_Decode (fs1) (by first | assumption | omega | decide +kernel)); simp only [fx_dec] at k_; exact k_) (by exact trivial) ?_
  intro h27 v29 w26 hl28 hp30 hS25
  obtain ⟨a31, c32, rfl, hf33⟩ := hp30
  refine WL.val1 (R_move (v := .tuple #[.slice (a31) ([fx1]).length (c32), .int .i64 (0)]) rfl) ?_
  refine WL.val1 (R_extract (vs := ([.slice (a31) ([fx1]).length (c32), .int .i64 (0)] : List Value).toArray) (v := .slice (a31) ([fx1]).length (c32)) rfl rfl) ?_
  refine WL.val1 (R_extract (vs := ([.slice (a31) ([fx1]).length (c32), .int .i64 (0)] : List Value).toArray) (v := .int .i64 (0)) rfl rfl) ?_
  refine WL.val1 (R_assign (v := .slice (a31) ([fx1]).length (c32)) rfl) ?_
  refine WL.val1 (R_assign (v := .int .i64 (0)) rfl) ?_
  refine WL.nil ?_
  refine then_normal ?_
  refine WC.seq ?_
  refine WC.region ?_
  refine S_callP (vs := [.slice none 0 0]) hS25 Tryd.call25 rfl (by have k_ := (rec_Encode [] none 0 (by first | assumption | omega | decide +kernel)); simp only [fx_enc0, fx_tag] at k_; exact k_) (by exact (Sl.nil _ _ _ _)) ?_
  intro w35 hS34
  refine WL.val1 (R_move (v := .tuple #[.string (B (([53, 58, 115, 116, 101, 116, 49, 44] : Str))), .int .i64 (0)]) rfl) ?_
  refine WL.val1 (R_extract (vs := ([.string (B (([53, 58, 115, 116, 101, 116, 49, 44] : Str))), .int .i64 (0)] : List Value).toArray) (v := .string (B (([53, 58, 115, 116, 101, 116, 49, 44] : Str)))) rfl rfl) ?_
  refine WL.val1 (R_extract (vs := ([.string (B (([53, 58, 115, 116, 101, 116, 49, 44] : Str))), .int .i64 (0)] : List Value).toArray) (v := .int .i64 (0)) rfl rfl) ?_
  refine WL.val1 (R_assign (v := .string (B (([53, 58, 115, 116, 101, 116, 49, 44] : Str)))) rfl) ?_
  refine WL.val1 (R_assign (v := .int .i64 (0)) rfl) ?_
  refine WL.nil ?_
  refine then_normal ?_
  refine WC.seq ?_
  refine WC.region ?_
  refine S_callF (vs := [.string (B (([] : Str)))]) hS34 Tryd.call26 rfl (by have k_ := (rec_Decode (([] : Str)) (by first | assumption | omega | decide +kernel)); simp only [fx_dec0] at k_; exact k_) (by exact trivial) ?_
  intro h38 v40 w37 hl39 hp41 hS36
  obtain ⟨a42, c43, rfl, hf44⟩ := hp41
  refine WL.val1 (R_move (v := .tuple #[.slice (a42) (([] : List Rec)).length (c43), .int .i64 (5)]) rfl) ?_
  refine WL.val1 (R_extract (vs := ([.slice (a42) (([] : List Rec)).length (c43), .int .i64 (5)] : List Value).toArray) (v := .slice (a42) (([] : List Rec)).length (c43)) rfl rfl) ?_
  refine WL.val1 (R_extract (vs := ([.slice (a42) (([] : List Rec)).length (c43), .int .i64 (5)] : List Value).toArray) (v := .int .i64 (5)) rfl rfl) ?_
  refine WL.val1 (R_assign (v := .slice (a42) (([] : List Rec)).length (c43)) rfl) ?_
  refine WL.val1 (R_assign (v := .int .i64 (5)) rfl) ?_
  refine WL.nil ?_
  refine then_normal ?_
  refine WC.seq ?_
  refine WC.region ?_
  refine WL.val1 (R_loadA (cs := [.string (B (([114] : Str))), .slice (some ⟨b5, 0, none⟩) 2 (2), .slice (some ⟨b11, 0, none⟩) 1 (1)]) rfl (hS36.has (i := 0) rfl) (Tryd.isAgg35 _) (Tryd.sizeOf35 _) rfl (sub_cells rfl)) ?_
  refine WL.val1 (R_loadA (cs := [.string (B (([114] : Str))), .slice (some ⟨b5, 0, none⟩) 2 (2), .slice (some ⟨b11, 0, none⟩) 1 (1)]) rfl (hS36.has (i := 0) rfl) (Tryd.isAgg35 _) (Tryd.sizeOf35 _) rfl (sub_cells rfl)) ?_
  refine S_buildSliceC (R := RRec) (m := 2) (vs := [(0, .agg #[.string (B (([114] : Str))), .slice (some ⟨b5, 0, none⟩) 2 (2), .slice (some ⟨b11, 0, none⟩) 1 (1)]), (1, .agg #[.string (B (([114] : Str))), .slice (some ⟨b5, 0, none⟩) 2 (2), .slice (some ⟨b11, 0, none⟩) 1 (1)])]) (cells := [.string (B (([114] : Str))), .slice (some ⟨b5, 0, none⟩) 2 (2), .slice (some ⟨b11, 0, none⟩) 1 (1), .string (B (([114] : Str))), .slice (some ⟨b5, 0, none⟩) 2 (2), .slice (some ⟨b11, 0, none⟩) 1 (1)]) (xs := [fx1, fx1]) hS36 Tryd.underlying22 Tryd.sizeOf35 Tryd.zeroValue35 (by decide) (by decide) rfl (by kernel_rfl) (by exact (⟨[.string (B (([114] : Str))), .slice (some ⟨b5, 0, none⟩) 2 (2), .slice (some ⟨b11, 0, none⟩) 1 (1)], _, rfl, ⟨some ⟨b5, 0, none⟩, 2, some ⟨b11, 0, none⟩, 1, rfl, (hs6.mono (((hl10.trans hl20).trans hl28).trans hl39)), (hs12.mono ((hl20.trans hl28).trans hl39))⟩, ⟨[.string (B (([114] : Str))), .slice (some ⟨b5, 0, none⟩) 2 (2), .slice (some ⟨b11, 0, none⟩) 1 (1)], _, rfl, ⟨some ⟨b5, 0, none⟩, 2, some ⟨b11, 0, none⟩, 1, rfl, (hs6.mono (((hl10.trans hl20).trans hl28).trans hl39)), (hs12.mono ((hl20.trans hl28).trans hl39))⟩, rfl⟩⟩ : Flat RRec _ [fx1, fx1] _)) rfl ?_
  intro h47 b49 w46 hl48 hs50 hS45
  refine S_callP (vs := [.slice (some ⟨b49, 0, none⟩) 2 (2)]) hS45 Tryd.call25 rfl (by have k_ := (rec_Encode ([fx1, fx1]) (some ⟨b49, 0, none⟩) (2) (by first | assumption | omega | decide +kernel)); simp only [fx_enc2] at k_; exact k_) (by exact hs50) ?_
  intro w52 hS51
  refine WL.val1 (R_move (v := .tuple #[.string (B (([] : Str))), .int .i64 (5)]) rfl) ?_
  refine WL.val1 (R_extract (vs := ([.string (B (([] : Str))), .int .i64 (5)] : List Value).toArray) (v := .string (B (([] : Str)))) rfl rfl) ?_
  refine WL.val1 (R_extract (vs := ([.string (B (([] : Str))), .int .i64 (5)] : List Value).toArray) (v := .int .i64 (5)) rfl rfl) ?_
  refine WL.val1 (R_assign (v := .string (B (([] : Str)))) rfl) ?_
  refine WL.val1 (R_assign (v := .int .i64 (5)) rfl) ?_
  refine WL.nil ?_
  refine then_normal ?_
  refine WC.seq ?_
  refine WC.region ?_
  refine WL.val1 (R_build (vs := [(0, .string (B (([98] : Str)))), (1, .string (B (([116] : Str))))]) (v := .agg #[.string (B (([98] : Str))), .string (B (([116] : Str)))]) rfl (fun _ => by kernel_rfl)) ?_
  refine WL.val1 (R_build (vs := [(0, .string (B (([99] : Str)))), (1, .string (B (([117] : Str))))]) (v := .agg #[.string (B (([99] : Str))), .string (B (([117] : Str)))]) rfl (fun _ => by kernel_rfl)) ?_
  refine S_buildSliceC (R := RFile) (m := 2) (vs := [(0, .agg #[.string (B (([98] : Str))), .string (B (([116] : Str)))]), (1, .agg #[.string (B (([99] : Str))), .string (B (([117] : Str)))])]) (cells := [.string (B (([98] : Str))), .string (B (([116] : Str))), .string (B (([99] : Str))), .string (B (([117] : Str)))]) (xs := fm1) hS51 Tryd.underlying23 Tryd.sizeOf53 Tryd.zeroValue53 (by decide) (by decide) rfl (by kernel_rfl) (by exact (⟨[.string (B (([98] : Str))), .string (B (([116] : Str)))], _, rfl, rfl, ⟨[.string (B (([99] : Str))), .string (B (([117] : Str)))], _, rfl, rfl, rfl⟩⟩ : Flat RFile _ fm1 _)) rfl ?_
  intro h55 b57 w54 hl56 hs58 hS53
  refine WL.val1 (R_assign (v := .slice (some ⟨b57, 0, none⟩) 2 (2)) rfl) ?_
  refine WL.nil ?_
  refine then_normal ?_
  refine WC.seq ?_
  refine WC.region ?_
  refine WL.val1 (R_move (v := .slice (a31) ([fx1]).length (c32)) rfl) ?_
  refine S_callF (vs := [.slice (a31) ([fx1]).length (c32), .string (B (([114] : Str)))]) hS53 Tryd.call16 rfl (by have k_ := (rec_Find ([fx1]) (a31) (c32) (([114] : Str)) (by first | assumption | omega | decide +kernel) (by first | assumption | omega | decide +kernel)); simp only [fx_find] at k_; exact k_) (by exact (hf33.mono ((hl39.trans hl48).trans hl56))) ?_
  intro h61 v63 w60 hl62 hp64 hS59
  obtain ⟨a65, c66, a267, c268, rfl, hf69, hf70⟩ := hp64
  refine WL.val1 (R_move (v := .tuple #[.agg #[.string (B (fx1.name)), .slice (a65) (fx1.seens).length (c66), .slice (a267) (fx1.files).length (c268)], .bool (true)]) rfl) ?_
  refine WL.val1 (R_extract (vs := ([.agg #[.string (B (fx1.name)), .slice (a65) (fx1.seens).length (c66), .slice (a267) (fx1.files).length (c268)], .bool (true)] : List Value).toArray) (v := .agg #[.string (B (fx1.name)), .slice (a65) (fx1.seens).length (c66), .slice (a267) (fx1.files).length (c268)]) rfl rfl) ?_
  refine WL.val1 (R_extract (vs := ([.agg #[.string (B (fx1.name)), .slice (a65) (fx1.seens).length (c66), .slice (a267) (fx1.files).length (c268)], .bool (true)] : List Value).toArray) (v := .bool (true)) rfl rfl) ?_
  refine S_alloc hS59 Tryd.zeroValue35 ?_
  intro w72 hS71
  refine S_store (i := 0) (b := w60.heap.size) (l := [.string (B (([] : Str))), .slice none 0 0, .slice none 0 0]) (l' := [.string (B (fx1.name)), .slice (a65) (fx1.seens).length (c66), .slice (a267) (fx1.files).length (c268)]) (vs := [.string (B (fx1.name)), .slice (a65) (fx1.seens).length (c66), .slice (a267) (fx1.files).length (c268)]) (v := .agg #[.string (B (fx1.name)), .slice (a65) (fx1.seens).length (c66), .slice (a267) (fx1.files).length (c268)]) hS71 rfl rfl rfl Tryd.sizeOf35 rfl rfl rfl (Nat.le_of_ble_eq_true rfl) rfl rfl ?_
  intro w74 hS73
  refine WL.val1 (R_assign (v := .bool (true)) rfl) ?_
  refine WL.nil ?_
  refine then_normal ?_
  refine WC.seq ?_
  refine WC.region ?_
  refine WL.val1 (R_move (v := .slice (a31) ([fx1]).length (c32)) rfl) ?_
  refine S_callF (vs := [.slice (a31) ([fx1]).length (c32), .string (B (([115] : Str)))]) hS73 Tryd.call16 rfl (by have k_ := (rec_Find ([fx1]) (a31) (c32) (([115] : Str)) (by first | assumption | omega | decide +kernel) (by first | assumption | omega | decide +kernel)); simp only [fx_find2] at k_; exact k_) (by exact (hf33.mono (((hl39.trans hl48).trans hl56).trans hl62))) ?_
  intro h77 v79 w76 hl78 hp80 hS75
  obtain ⟨a81, c82, a283, c284, rfl, hf85, hf86⟩ := hp80
  refine WL.val1 (R_move (v := .tuple #[.agg #[.string (B ((⟨[], [], []⟩ : Rec).name)), .slice (a81) ((⟨[], [], []⟩ : Rec).seens).length (c82), .slice (a283) ((⟨[], [], []⟩ : Rec).files).length (c284)], .bool (false)]) rfl) ?_
  refine WL.val1 (R_extract (vs := ([.agg #[.string (B ((⟨[], [], []⟩ : Rec).name)), .slice (a81) ((⟨[], [], []⟩ : Rec).seens).length (c82), .slice (a283) ((⟨[], [], []⟩ : Rec).files).length (c284)], .bool (false)] : List Value).toArray) (v := .agg #[.string (B ((⟨[], [], []⟩ : Rec).name)), .slice (a81) ((⟨[], [], []⟩ : Rec).seens).length (c82), .slice (a283) ((⟨[], [], []⟩ : Rec).files).length (c284)]) rfl rfl) ?_
  refine WL.val1 (R_extract (vs := ([.agg #[.string (B ((⟨[], [], []⟩ : Rec).name)), .slice (a81) ((⟨[], [], []⟩ : Rec).seens).length (c82), .slice (a283) ((⟨[], [], []⟩ : Rec).files).length (c284)], .bool (false)] : List Value).toArray) (v := .bool (false)) rfl rfl) ?_
  refine S_alloc hS75 Tryd.zeroValue35 ?_
  intro w88 hS87
  refine S_store (i := 0) (b := w76.heap.size) (l := [.string (B (([] : Str))), .slice none 0 0, .slice none 0 0]) (l' := [.string (B ((⟨[], [], []⟩ : Rec).name)), .slice (a81) ((⟨[], [], []⟩ : Rec).seens).length (c82), .slice (a283) ((⟨[], [], []⟩ : Rec).files).length (c284)]) (vs := [.string (B ((⟨[], [], []⟩ : Rec).name)), .slice (a81) ((⟨[], [], []⟩ : Rec).seens).length (c82), .slice (a283) ((⟨[], [], []⟩ : Rec).files).length (c284)]) (v := .agg #[.string (B ((⟨[], [], []⟩ : Rec).name)), .slice (a81) ((⟨[], [], []⟩ : Rec).seens).length (c82), .slice (a283) ((⟨[], [], []⟩ : Rec).files).length (c284)]) hS87 rfl rfl rfl Tryd.sizeOf35 rfl rfl rfl (Nat.le_of_ble_eq_true rfl) rfl rfl ?_
  intro w90 hS89
  refine WL.val1 (R_assign (v := .bool (false)) rfl) ?_
  refine WL.nil ?_
  refine then_normal ?_
  refine WC.seq ?_
  refine WC.region ?_
  refine WL.val1 (R_move (v := .slice (a31) ([fx1]).length (c32)) rfl) ?_
  refine WL.val1 (R_build (vs := [(0, .string (B (([115] : Str))))]) (v := .agg #[.string (B (([115] : Str))), .slice none 0 0, .slice none 0 0]) rfl (fun _ => by kernel_rfl)) ?_
  refine S_callF (vs := [.slice (a31) ([fx1]).length (c32), .agg #[.string (B (([115] : Str))), .slice none 0 0, .slice none 0 0]]) hS89 Tryd.call14 rfl (by have k_ := (rec_Put ([fx1]) (a31) (c32) (fxs) none 0 none 0 (by first | assumption | omega | decide +kernel) (by first | assumption | omega | decide +kernel) (by first | assumption | omega | decide +kernel) (by first | assumption | omega | decide +kernel)); simp only [fx_put] at k_; exact k_) (by exact ⟨(hf33.mono ((((hl39.trans hl48).trans hl56).trans hl62).trans hl78)), (Sl.nil _ _ _ _), (Sl.nil _ _ _ _)⟩) ?_
  intro h93 v95 w92 hl94 hp96 hS91
  obtain ⟨a97, c98, rfl, hf99⟩ := hp96
  refine WL.val1 (R_assign (v := .slice (a97) ([fx1, fxs]).length (c98)) rfl) ?_
  refine WL.nil ?_
  refine then_normal ?_
  refine WC.seq ?_
  refine WC.draw 83 [(0, .bool (false)), (1, .pointer (some ⟨w8.heap.size, 0, none⟩)), (2, .string (B (fs1))), (3, .int .i64 (0)), (4, .slice (a31) ([fx1]).length (c32)), (5, .int .i64 (0)), (6, .string (B (([53, 58, 115, 116, 101, 116, 49, 44] : Str)))), (7, .int .i64 (0)), (9, .int .i64 (5)), (11, .int .i64 (5)), (12, .slice (some ⟨b57, 0, none⟩) 2 (2)), (13, .pointer (some ⟨w60.heap.size, 0, none⟩)), (14, .bool (true)), (16, .bool (false)), (17, .slice (a97) ([fx1, fxs]).length (c98))] ((fun _ v => v = .string (B (fs1))) :: (fun _ v => v = .bool (true)) :: (fun _ v => v = .bool (true)) :: (fun _ v => v = .int .i64 (0)) :: (fun _ v => v = .bool (true)) :: (fun _ v => v = .bool (true)) :: (fun _ v => v = .bool (true)) :: (fun _ v => v = .slice (a31) ([fx1]).length (c32)) :: (fun h v => ∃ (a0_ : Option Addr) (c0_ : Nat), v = .slice (a0_) (([fx1])).length (c0_) ∧ Sl RRec2 h (([fx1])) (a0_) (c0_)) :: (fun _ v => v = .agg #[.string (B (([114] : Str))), .slice (some ⟨b5, 0, none⟩) 2 (2), .slice (some ⟨b11, 0, none⟩) 1 (1)]) :: (fun h v => ∃ (b0_ : Nat), v = .slice (some ⟨b0_, 0, none⟩) 1 (1) ∧ Sl RRec h ([fx1]) (some ⟨b0_, 0, none⟩) (1)) :: (fun h v => ∃ (a0_ : Option Addr) (c0_ : Nat), v = .slice (a0_) (([fx1])).length (c0_) ∧ Sl RRec2 h (([fx1])) (a0_) (c0_)) :: (fun _ v => v = .bool (true)) :: (fun _ v => v = .bool (true)) :: (fun _ v => v = .bool (true)) :: (fun _ v => v = .int .i64 (0)) :: (fun _ v => v = .bool (true)) :: (fun _ v => v = .bool (true)) :: (fun _ v => v = .bool (true)) :: (fun _ v => v = .string (B (([53, 58, 115, 116, 101, 116, 49, 44] : Str)))) :: (fun _ v => v = .bool (true)) :: (fun _ v => v = .bool (true)) :: (fun _ v => v = .bool (true)) :: (fun _ v => v = .int .i64 (0)) :: (fun _ v => v = .bool (true)) :: (fun _ v => v = .bool (true)) :: (fun _ v => v = .bool (true)) :: (fun _ v => v = .int .i64 (5)) :: (fun _ v => v = .bool (true)) :: (fun _ v => v = .bool (true)) :: (fun _ v => v = .bool (true)) :: (fun _ v => v = .int .i64 (5)) :: (fun _ v => v = .bool (true)) :: (fun _ v => v = .bool (true)) :: (fun _ v => v = .bool (true)) :: (fun _ v => v = .agg #[.string (B (([114] : Str))), .slice (some ⟨b5, 0, none⟩) 2 (2), .slice (some ⟨b11, 0, none⟩) 1 (1)]) :: (fun _ v => v = .slice (some ⟨b57, 0, none⟩) 2 (2)) :: (fun _ v => v = .bool (true)) :: (fun _ v => v = .bool (true)) :: (fun _ v => v = .bool (true)) :: (fun _ v => v = .agg #[.string (B (([114] : Str))), .slice (some ⟨b5, 0, none⟩) 2 (2), .slice (some ⟨b11, 0, none⟩) 1 (1)]) :: (fun _ v => v = .slice (some ⟨b57, 0, none⟩) 2 (2)) :: (fun h v => ∃ (a0_ : Option Addr) (c0_ : Nat), v = .slice (a0_) ((fm1.drop 1)).length (c0_) ∧ Sl RFile h ((fm1.drop 1)) (a0_) (c0_)) :: (fun _ v => v = .bool (false)) :: (fun _ v => v = .bool (true)) :: (fun _ v => v = .bool (true)) :: (fun _ v => v = .bool (true)) :: (fun _ v => v = .agg #[.string (B (([114] : Str))), .slice (some ⟨b5, 0, none⟩) 2 (2), .slice (some ⟨b11, 0, none⟩) 1 (1)]) :: (fun _ v => v = .slice (some ⟨b57, 0, none⟩) 2 (2)) :: (fun h v => ∃ (a0_ : Option Addr) (c0_ : Nat), v = .slice (a0_) ((fm1.take 1)).length (c0_) ∧ Sl RFile h ((fm1.take 1)) (a0_) (c0_)) :: (fun _ v => v = .bool (false)) :: (fun _ v => v = .bool (true)) :: (fun _ v => v = .bool (true)) :: (fun _ v => v = .bool (true)) :: (fun _ v => v = .slice (some ⟨b57, 0, none⟩) 2 (2)) :: (fun h v => ∃ (b0_ : Nat), v = .slice (some ⟨b0_, 0, none⟩) 3 (3) ∧ Sl Rstr h ([([97] : Str), ([98] : Str), ([97] : Str)]) (some ⟨b0_, 0, none⟩) (3)) :: (fun h v => ∃ (a0_ : Option Addr) (c0_ : Nat), v = .slice (a0_) (([⟨[97], false, []⟩, ⟨[98], true, [116]⟩] : List Seen)).length (c0_) ∧ Sl RSeen h (([⟨[97], false, []⟩, ⟨[98], true, [116]⟩] : List Seen)) (a0_) (c0_)) :: (fun h v => ∃ (a0_ : Option Addr) (c0_ : Nat), v = .slice (a0_) ((([⟨[97], false, []⟩, ⟨[98], true, [116]⟩] : List Seen))).length (c0_) ∧ Sl RSeen2 h ((([⟨[97], false, []⟩, ⟨[98], true, [116]⟩] : List Seen))) (a0_) (c0_)) :: (fun _ v => v = .agg #[.string (B (([97] : Str))), .bool (false), .string (B (([] : Str)))]) :: (fun _ v => v = .agg #[.string (B (([98] : Str))), .bool (true), .string (B (([116] : Str)))]) :: (fun h v => ∃ (b0_ : Nat), v = .slice (some ⟨b0_, 0, none⟩) 2 (2) ∧ Sl RSeen2 h ([{ name := ([97] : Str), there := false, text := ([] : Str) : Seen }, { name := ([98] : Str), there := true, text := ([116] : Str) : Seen }]) (some ⟨b0_, 0, none⟩) (2)) :: (fun _ v => v = .bool (sameSeens ((([⟨[97], false, []⟩, ⟨[98], true, [116]⟩] : List Seen))) ([{ name := ([97] : Str), there := false, text := ([] : Str) : Seen }, { name := ([98] : Str), there := true, text := ([116] : Str) : Seen }]))) :: (fun _ v => v = .bool (true)) :: (fun _ v => v = .bool (true)) :: (fun _ v => v = .pointer (some ⟨w60.heap.size, 0, none⟩)) :: (fun _ v => v = .string (B (fx1.name))) :: (fun _ v => v = .bool (true)) :: (fun _ v => v = .bool (true)) :: (fun _ v => v = .bool (true)) :: (fun _ v => v = .bool (true)) :: (fun _ v => v = .bool (true)) :: (fun _ v => v = .bool (true)) :: (fun _ v => v = .bool (false)) :: (fun _ v => v = .bool (true)) :: (fun _ v => v = .bool (true)) :: (fun _ v => v = .bool (true)) :: (fun _ v => v = .slice (a97) ([fx1, fxs]).length (c98)) :: (fun _ v => v = .int .i64 (((([fx1, fxs]).length : Nat) : Int))) :: (fun _ v => v = .bool (true)) :: (fun _ v => v = .bool (true)) :: (fun _ v => v = .bool (true)) :: (fun _ v => v = .slice (a97) ([fx1, fxs]).length (c98)) :: (fun _ v => v = .agg #[.string (B (([114] : Str))), .slice (some ⟨b5, 0, none⟩) 2 (2), .slice (some ⟨b11, 0, none⟩) 1 (1)]) :: []) hS91 (by kernel_rfl) (by kernel_rfl) (MonoFs.pure (MonoFs.pure (MonoFs.pure (MonoFs.pure (MonoFs.pure (MonoFs.pure (MonoFs.pure (MonoFs.pure (MonoFs.cons (fun _ _ _ hl ⟨x0, x1, e, y0⟩ => ⟨x0, x1, e, y0.mono hl⟩) (MonoFs.pure (MonoFs.cons (fun _ _ _ hl ⟨x0, e, y0⟩ => ⟨x0, e, y0.mono hl⟩) (MonoFs.cons (fun _ _ _ hl ⟨x0, x1, e, y0⟩ => ⟨x0, x1, e, y0.mono hl⟩) (MonoFs.pure (MonoFs.pure (MonoFs.pure (MonoFs.pure (MonoFs.pure (MonoFs.pure (MonoFs.pure (MonoFs.pure (MonoFs.pure (MonoFs.pure (MonoFs.pure (MonoFs.pure (MonoFs.pure (MonoFs.pure (MonoFs.pure (MonoFs.pure (MonoFs.pure (MonoFs.pure (MonoFs.pure (MonoFs.pure (MonoFs.pure (MonoFs.pure (MonoFs.pure (MonoFs.pure (MonoFs.pure (MonoFs.pure (MonoFs.pure (MonoFs.pure (MonoFs.pure (MonoFs.pure (MonoFs.cons (fun _ _ _ hl ⟨x0, x1, e, y0⟩ => ⟨x0, x1, e, y0.mono hl⟩) (MonoFs.pure (MonoFs.pure (MonoFs.pure (MonoFs.pure (MonoFs.pure (MonoFs.pure (MonoFs.cons (fun _ _ _ hl ⟨x0, x1, e, y0⟩ => ⟨x0, x1, e, y0.mono hl⟩) (MonoFs.pure (MonoFs.pure (MonoFs.pure (MonoFs.pure (MonoFs.pure (MonoFs.cons (fun _ _ _ hl ⟨x0, e, y0⟩ => ⟨x0, e, y0.mono hl⟩) (MonoFs.cons (fun _ _ _ hl ⟨x0, x1, e, y0⟩ => ⟨x0, x1, e, y0.mono hl⟩) (MonoFs.cons (fun _ _ _ hl ⟨x0, x1, e, y0⟩ => ⟨x0, x1, e, y0.mono hl⟩) (MonoFs.pure (MonoFs.pure (MonoFs.cons (fun _ _ _ hl ⟨x0, e, y0⟩ => ⟨x0, e, y0.mono hl⟩) (MonoFs.pure (MonoFs.pure (MonoFs.pure (MonoFs.pure (MonoFs.pure (MonoFs.pure (MonoFs.pure (MonoFs.pure (MonoFs.pure (MonoFs.pure (MonoFs.pure (MonoFs.pure (MonoFs.pure (MonoFs.pure (MonoFs.pure (MonoFs.pure (MonoFs.pure (MonoFs.pure (MonoFs.pure (MonoFs.pure (MonoFs.pure (MonoFs.pure MonoFs.nil))))))))))))))))))))))))))))))))))))))))))))))))))))))))))))))))))))))))))))))))))) ⟨rfl, rfl, rfl, rfl, rfl, rfl, rfl, rfl, rfl, rfl, rfl, rfl, rfl, rfl, rfl, trivial⟩ ⟨?_, ?_, ?_, ?_, ?_, ?_, ?_, ?_, ?_, ?_, ?_, ?_, ?_, ?_, ?_, ?_, ?_, ?_, ?_, ?_, ?_, ?_, ?_, ?_, ?_, ?_, ?_, ?_, ?_, ?_, ?_, ?_, ?_, ?_, ?_, ?_, ?_, ?_, ?_, ?_, ?_, ?_, ?_, ?_, ?_, ?_, ?_, ?_, ?_, ?_, ?_, ?_, ?_, ?_, ?_, ?_, ?_, ?_, ?_, ?_, ?_, ?_, ?_, ?_, ?_, ?_, ?_, ?_, ?_, ?_, ?_, ?_, ?_, ?_, ?_, ?_, ?_, ?_, ?_, ?_, ?_, ?_, ?_, trivial⟩ ?_
  · intro r_ w572 h573 hl574 hS571 hb_ hp_
    obtain ⟨b0_, b1_, b2_, b3_, b4_, b5_, b6_, b7_, b8_, b9_, b10_, b11_, b12_, b13_, b14_, _⟩ := hb_
    refine WL.val1 (R_move (v := .string (B (fs1))) b2_) ?_
    refine WL.nil ?_
    exact ⟨rfl, _, _, rfl, (Hp.le_refl _), rfl, hS571⟩
  · intro r_ w576 h577 hl578 hS575 hb_ hp_
    obtain ⟨b0_, b1_, b2_, b3_, b4_, b5_, b6_, b7_, b8_, b9_, b10_, b11_, b12_, b13_, b14_, _⟩ := hb_
    obtain ⟨p0_, _⟩ := hp_
    have p0_ : r_ 66 = .string (B (fs1)) := p0_
    refine WL.val1 (R_cast (R_seql (a := fs1) (b := ([53, 58, 115, 116, 101, 116, 49, 44, 51, 54, 58, 49, 58, 114, 44, 49, 55, 58, 49, 58, 97, 44, 49, 58, 45, 44, 49, 58, 98, 44, 50, 58, 43, 116, 44, 44, 56, 58, 49, 58, 99, 44, 49, 58, 117, 44, 44, 44] : Str)) p0_ rfl) (bool_true (by decide +kernel))) ?_
    refine WL.nil ?_
    exact ⟨rfl, _, _, rfl, (Hp.le_refl _), rfl, hS575⟩
  · intro r_ w580 h581 hl582 hS579 hb_ hp_
    obtain ⟨b0_, b1_, b2_, b3_, b4_, b5_, b6_, b7_, b8_, b9_, b10_, b11_, b12_, b13_, b14_, _⟩ := hb_
    obtain ⟨p0_, _⟩ := hp_
    have p0_ : r_ 67 = .bool (true) := p0_
    refine WL.val1 (R_move (v := .bool (true)) p0_) ?_
    refine WL.nil ?_
    exact ⟨rfl, _, _, rfl, (Hp.le_refl _), rfl, hS579⟩
  · intro r_ w584 h585 hl586 hS583 hb_ hp_
    obtain ⟨b0_, b1_, b2_, b3_, b4_, b5_, b6_, b7_, b8_, b9_, b10_, b11_, b12_, b13_, b14_, _⟩ := hb_
    obtain ⟨p0_, _⟩ := hp_
    have p0_ : r_ 68 = .bool (true) := p0_
    refine WL_unguard (yl_eq (d := 68) rfl p0_) ?_
    refine WL.val1 (R_move (v := .int .i64 (0)) b3_) ?_
    refine WL.nil ?_
    exact ⟨rfl, _, _, rfl, (Hp.le_refl _), rfl, hS583⟩
  · intro r_ w588 h589 hl590 hS587 hb_ hp_
    obtain ⟨b0_, b1_, b2_, b3_, b4_, b5_, b6_, b7_, b8_, b9_, b10_, b11_, b12_, b13_, b14_, _⟩ := hb_
    obtain ⟨p0_, p1_, _⟩ := hp_
    have p0_ : r_ 69 = .int .i64 (0) := p0_
    have p1_ : r_ 68 = .bool (true) := p1_
    refine WL_unguard (yl_eq (d := 68) rfl p1_) ?_
    refine WL.val1 (R_cast (R_eql (a := 0) (b := 0) p0_ rfl) (bool_true (by decide +kernel))) ?_
    refine WL.nil ?_
    exact ⟨rfl, _, _, rfl, (Hp.le_refl _), rfl, hS587⟩
  · intro r_ w592 h593 hl594 hS591 hb_ hp_
    obtain ⟨b0_, b1_, b2_, b3_, b4_, b5_, b6_, b7_, b8_, b9_, b10_, b11_, b12_, b13_, b14_, _⟩ := hb_
    obtain ⟨p0_, p1_, _⟩ := hp_
    have p0_ : r_ 68 = .bool (true) := p0_
    have p1_ : r_ 70 = .bool (true) := p1_
    refine WL.val1 (R_pick (cb := true) (v := .bool (true)) p0_ (fun _ => p1_) (fun h => by cases h)) ?_
    refine WL.nil ?_
    exact ⟨rfl, _, _, rfl, (Hp.le_refl _), rfl, hS591⟩
  · intro r_ w596 h597 hl598 hS595 hb_ hp_
    obtain ⟨b0_, b1_, b2_, b3_, b4_, b5_, b6_, b7_, b8_, b9_, b10_, b11_, b12_, b13_, b14_, _⟩ := hb_
    obtain ⟨p0_, p1_, _⟩ := hp_
    have p0_ : r_ 71 = .bool (true) := p0_
    have p1_ : r_ 68 = .bool (true) := p1_
    refine WL.val1 (R_move (v := .bool (true)) p0_) ?_
    refine WL.nil ?_
    exact ⟨rfl, _, _, rfl, (Hp.le_refl _), rfl, hS595⟩
  · intro r_ w600 h601 hl602 hS599 hb_ hp_
    obtain ⟨b0_, b1_, b2_, b3_, b4_, b5_, b6_, b7_, b8_, b9_, b10_, b11_, b12_, b13_, b14_, _⟩ := hb_
    obtain ⟨p0_, _⟩ := hp_
    have p0_ : r_ 72 = .bool (true) := p0_
    refine WL_unguard (yl_eq (d := 72) rfl p0_) ?_
    refine WL.val1 (R_move (v := .slice (a31) ([fx1]).length (c32)) b4_) ?_
    refine WL.nil ?_
    exact ⟨rfl, _, _, rfl, (Hp.le_refl _), rfl, hS599⟩
  · intro r_ w604 h605 hl606 hS603 hb_ hp_
    obtain ⟨b0_, b1_, b2_, b3_, b4_, b5_, b6_, b7_, b8_, b9_, b10_, b11_, b12_, b13_, b14_, _⟩ := hb_
    obtain ⟨p0_, p1_, p2_, _⟩ := hp_
    have p0_ : r_ 73 = .slice (a31) ([fx1]).length (c32) := p0_
    have p1_ : r_ 72 = .bool (true) := p1_
    have p2_ : r_ 72 = .bool (true) := p2_
    refine WL_unguard (yl_eq (d := 72) rfl p2_) ?_
    refine S_callF (vs := [.slice (a31) ([fx1]).length (c32)]) hS603 Tryd.call12 (hmap1 p0_) (law_Refs ([fx1]) (a31) (c32) (by first | assumption | omega | decide +kernel) (by first | assumption | omega | decide +kernel)) (hf33.mono ((((((hl39.trans hl48).trans hl56).trans hl62).trans hl78).trans hl94).trans hl606)) ?_
    intro h609 v611 w608 hl610 hp612 hS607
    obtain ⟨a613, c614, rfl, hf615⟩ := hp612
    refine WL.nil ?_
    exact ⟨rfl, _, _, rfl, hl610, ⟨a613, c614, rfl, hf615⟩, hS607⟩
  · intro r_ w620 h621 hl622 hS619 hb_ hp_
    obtain ⟨b0_, b1_, b2_, b3_, b4_, b5_, b6_, b7_, b8_, b9_, b10_, b11_, b12_, b13_, b14_, _⟩ := hb_
    obtain ⟨p0_, _⟩ := hp_
    have p0_ : r_ 72 = .bool (true) := p0_
    refine WL_unguard (yl_eq (d := 72) rfl p0_) ?_
    refine WL.val1 (R_loadA (cs := [.string (B (([114] : Str))), .slice (some ⟨b5, 0, none⟩) 2 (2), .slice (some ⟨b11, 0, none⟩) 1 (1)]) b1_ (hS619.has (i := 2) rfl) (Tryd.isAgg35 _) (Tryd.sizeOf35 _) rfl (sub_cells rfl)) ?_
    refine WL.nil ?_
    exact ⟨rfl, _, _, rfl, (Hp.le_refl _), rfl, hS619⟩
  · intro r_ w624 h625 hl626 hS623 hb_ hp_
    obtain ⟨b0_, b1_, b2_, b3_, b4_, b5_, b6_, b7_, b8_, b9_, b10_, b11_, b12_, b13_, b14_, _⟩ := hb_
    obtain ⟨p0_, p1_, _⟩ := hp_
    have p0_ : r_ 75 = .agg #[.string (B (([114] : Str))), .slice (some ⟨b5, 0, none⟩) 2 (2), .slice (some ⟨b11, 0, none⟩) 1 (1)] := p0_
    have p1_ : r_ 72 = .bool (true) := p1_
    refine WL_unguard (yl_eq (d := 72) rfl p1_) ?_
    refine S_buildSliceC (R := RRec) (m := 1) (vs := [(0, .agg #[.string (B (([114] : Str))), .slice (some ⟨b5, 0, none⟩) 2 (2), .slice (some ⟨b11, 0, none⟩) 1 (1)])]) (cells := [.string (B (([114] : Str))), .slice (some ⟨b5, 0, none⟩) 2 (2), .slice (some ⟨b11, 0, none⟩) 1 (1)]) (xs := [fx1]) hS623 Tryd.underlying22 Tryd.sizeOf35 Tryd.zeroValue35 (by decide) (by decide) (pmap1 (v := .agg #[.string (B (([114] : Str))), .slice (some ⟨b5, 0, none⟩) 2 (2), .slice (some ⟨b11, 0, none⟩) 1 (1)]) p0_) (by kernel_rfl) (by exact (⟨[.string (B (([114] : Str))), .slice (some ⟨b5, 0, none⟩) 2 (2), .slice (some ⟨b11, 0, none⟩) 1 (1)], _, rfl, ⟨some ⟨b5, 0, none⟩, 2, some ⟨b11, 0, none⟩, 1, rfl, (hs6.mono (((((((((hl10.trans hl20).trans hl28).trans hl39).trans hl48).trans hl56).trans hl62).trans hl78).trans hl94).trans hl626)), (hs12.mono ((((((((hl20.trans hl28).trans hl39).trans hl48).trans hl56).trans hl62).trans hl78).trans hl94).trans hl626))⟩, rfl⟩ : Flat RRec _ [fx1] _)) rfl ?_
    intro h629 b631 w628 hl630 hs632 hS627
    refine WL.nil ?_
    exact ⟨rfl, _, _, rfl, hl630, ⟨b631, rfl, hs632⟩, hS627⟩
  · intro r_ w636 h637 hl638 hS635 hb_ hp_
    obtain ⟨b0_, b1_, b2_, b3_, b4_, b5_, b6_, b7_, b8_, b9_, b10_, b11_, b12_, b13_, b14_, _⟩ := hb_
    obtain ⟨p0_, p1_, p2_, _⟩ := hp_
    obtain ⟨b639, p0_, hs640⟩ := p0_
    obtain ⟨a641, c642, p1_, hs643⟩ := p1_
    have p2_ : r_ 72 = .bool (true) := p2_
    refine WL_unguard (yl_eq (d := 72) rfl p2_) ?_
    refine S_callF (vs := [.slice (some ⟨b639, 0, none⟩) 1 (1)]) hS635 Tryd.call12 (hmap1 p0_) (law_Refs ([fx1]) (some ⟨b639, 0, none⟩) (1) (by first | assumption | omega | decide +kernel) (by first | assumption | omega | decide +kernel)) hs640 ?_
    intro h646 v648 w645 hl647 hp649 hS644
    obtain ⟨a650, c651, rfl, hf652⟩ := hp649
    refine WL.nil ?_
    exact ⟨rfl, _, _, rfl, hl647, ⟨a650, c651, rfl, hf652⟩, hS644⟩
  · intro r_ w657 h658 hl659 hS656 hb_ hp_
    obtain ⟨b0_, b1_, b2_, b3_, b4_, b5_, b6_, b7_, b8_, b9_, b10_, b11_, b12_, b13_, b14_, _⟩ := hb_
    obtain ⟨p0_, p1_, p2_, p3_, _⟩ := hp_
    obtain ⟨a660, c661, p0_, hs662⟩ := p0_
    obtain ⟨a663, c664, p1_, hs665⟩ := p1_
    obtain ⟨a666, c667, p2_, hs668⟩ := p2_
    have p3_ : r_ 72 = .bool (true) := p3_
    refine WL_unguard (yl_eq (d := 72) rfl p3_) ?_
    refine S_callP (vs := [.slice (a660) (([fx1])).length (c661), .slice (a666) (([fx1])).length (c667)]) hS656 Tryd.call13 (hmap2 p0_ p2_) (by have k_ := (ref20_Same (([fx1])) (a660) (c661) (([fx1])) (a666) (c667) (by first | assumption | omega | decide +kernel) (by first | assumption | omega | decide +kernel)); simp only [fx_same] at k_; exact k_) (by exact ⟨hs662, hs668⟩) ?_
    intro w670 hS669
    refine WL.nil ?_
    exact ⟨rfl, _, _, rfl, (Hp.le_refl _), rfl, hS669⟩
  · intro r_ w672 h673 hl674 hS671 hb_ hp_
    obtain ⟨b0_, b1_, b2_, b3_, b4_, b5_, b6_, b7_, b8_, b9_, b10_, b11_, b12_, b13_, b14_, _⟩ := hb_
    obtain ⟨p0_, p1_, _⟩ := hp_
    have p0_ : r_ 72 = .bool (true) := p0_
    have p1_ : r_ 78 = .bool (true) := p1_
    refine WL.val1 (R_pick (cb := true) (v := .bool (true)) p0_ (fun _ => p1_) (fun h => by cases h)) ?_
    refine WL.nil ?_
    exact ⟨rfl, _, _, rfl, (Hp.le_refl _), rfl, hS671⟩
  · intro r_ w676 h677 hl678 hS675 hb_ hp_
    obtain ⟨b0_, b1_, b2_, b3_, b4_, b5_, b6_, b7_, b8_, b9_, b10_, b11_, b12_, b13_, b14_, _⟩ := hb_
    obtain ⟨p0_, p1_, _⟩ := hp_
    have p0_ : r_ 79 = .bool (true) := p0_
    have p1_ : r_ 78 = .bool (true) := p1_
    refine WL.val1 (R_move (v := .bool (true)) p0_) ?_
    refine WL.nil ?_
    exact ⟨rfl, _, _, rfl, (Hp.le_refl _), rfl, hS675⟩
  · intro r_ w680 h681 hl682 hS679 hb_ hp_
    obtain ⟨b0_, b1_, b2_, b3_, b4_, b5_, b6_, b7_, b8_, b9_, b10_, b11_, b12_, b13_, b14_, _⟩ := hb_
    obtain ⟨p0_, _⟩ := hp_
    have p0_ : r_ 80 = .bool (true) := p0_
    refine WL_unguard (yl_eq (d := 80) rfl p0_) ?_
    refine WL.val1 (R_move (v := .int .i64 (0)) b5_) ?_
    refine WL.nil ?_
    exact ⟨rfl, _, _, rfl, (Hp.le_refl _), rfl, hS679⟩
  · intro r_ w684 h685 hl686 hS683 hb_ hp_
    obtain ⟨b0_, b1_, b2_, b3_, b4_, b5_, b6_, b7_, b8_, b9_, b10_, b11_, b12_, b13_, b14_, _⟩ := hb_
    obtain ⟨p0_, p1_, _⟩ := hp_
    have p0_ : r_ 81 = .int .i64 (0) := p0_
    have p1_ : r_ 80 = .bool (true) := p1_
    refine WL_unguard (yl_eq (d := 80) rfl p1_) ?_
    refine WL.val1 (R_cast (R_eql (a := 0) (b := 0) p0_ rfl) (bool_true (by decide +kernel))) ?_
    refine WL.nil ?_
    exact ⟨rfl, _, _, rfl, (Hp.le_refl _), rfl, hS683⟩
  · intro r_ w688 h689 hl690 hS687 hb_ hp_
    obtain ⟨b0_, b1_, b2_, b3_, b4_, b5_, b6_, b7_, b8_, b9_, b10_, b11_, b12_, b13_, b14_, _⟩ := hb_
    obtain ⟨p0_, p1_, _⟩ := hp_
    have p0_ : r_ 80 = .bool (true) := p0_
    have p1_ : r_ 82 = .bool (true) := p1_
    refine WL.val1 (R_pick (cb := true) (v := .bool (true)) p0_ (fun _ => p1_) (fun h => by cases h)) ?_
    refine WL.nil ?_
    exact ⟨rfl, _, _, rfl, (Hp.le_refl _), rfl, hS687⟩
  · intro r_ w692 h693 hl694 hS691 hb_ hp_
    obtain ⟨b0_, b1_, b2_, b3_, b4_, b5_, b6_, b7_, b8_, b9_, b10_, b11_, b12_, b13_, b14_, _⟩ := hb_
    obtain ⟨p0_, p1_, _⟩ := hp_
    have p0_ : r_ 83 = .bool (true) := p0_
    have p1_ : r_ 80 = .bool (true) := p1_
    refine WL.val1 (R_move (v := .bool (true)) p0_) ?_
    refine WL.nil ?_
    exact ⟨rfl, _, _, rfl, (Hp.le_refl _), rfl, hS691⟩
  · intro r_ w696 h697 hl698 hS695 hb_ hp_
    obtain ⟨b0_, b1_, b2_, b3_, b4_, b5_, b6_, b7_, b8_, b9_, b10_, b11_, b12_, b13_, b14_, _⟩ := hb_
    obtain ⟨p0_, _⟩ := hp_
    have p0_ : r_ 84 = .bool (true) := p0_
    refine WL_unguard (yl_eq (d := 84) rfl p0_) ?_
    refine WL.val1 (R_move (v := .string (B (([53, 58, 115, 116, 101, 116, 49, 44] : Str)))) b6_) ?_
    refine WL.nil ?_
    exact ⟨rfl, _, _, rfl, (Hp.le_refl _), rfl, hS695⟩
  · intro r_ w700 h701 hl702 hS699 hb_ hp_
    obtain ⟨b0_, b1_, b2_, b3_, b4_, b5_, b6_, b7_, b8_, b9_, b10_, b11_, b12_, b13_, b14_, _⟩ := hb_
    obtain ⟨p0_, p1_, _⟩ := hp_
    have p0_ : r_ 85 = .string (B (([53, 58, 115, 116, 101, 116, 49, 44] : Str))) := p0_
    have p1_ : r_ 84 = .bool (true) := p1_
    refine WL_unguard (yl_eq (d := 84) rfl p1_) ?_
    refine WL.val1 (R_cast (R_seql (a := ([53, 58, 115, 116, 101, 116, 49, 44] : Str)) (b := ([53, 58, 115, 116, 101, 116, 49, 44] : Str)) p0_ rfl) (bool_true (by decide +kernel))) ?_
    refine WL.nil ?_
    exact ⟨rfl, _, _, rfl, (Hp.le_refl _), rfl, hS699⟩
  · intro r_ w704 h705 hl706 hS703 hb_ hp_
    obtain ⟨b0_, b1_, b2_, b3_, b4_, b5_, b6_, b7_, b8_, b9_, b10_, b11_, b12_, b13_, b14_, _⟩ := hb_
    obtain ⟨p0_, p1_, _⟩ := hp_
    have p0_ : r_ 84 = .bool (true) := p0_
    have p1_ : r_ 86 = .bool (true) := p1_
    refine WL.val1 (R_pick (cb := true) (v := .bool (true)) p0_ (fun _ => p1_) (fun h => by cases h)) ?_
    refine WL.nil ?_
    exact ⟨rfl, _, _, rfl, (Hp.le_refl _), rfl, hS703⟩
  · intro r_ w708 h709 hl710 hS707 hb_ hp_
    obtain ⟨b0_, b1_, b2_, b3_, b4_, b5_, b6_, b7_, b8_, b9_, b10_, b11_, b12_, b13_, b14_, _⟩ := hb_
    obtain ⟨p0_, p1_, _⟩ := hp_
    have p0_ : r_ 87 = .bool (true) := p0_
    have p1_ : r_ 84 = .bool (true) := p1_
    refine WL.val1 (R_move (v := .bool (true)) p0_) ?_
    refine WL.nil ?_
    exact ⟨rfl, _, _, rfl, (Hp.le_refl _), rfl, hS707⟩
  · intro r_ w712 h713 hl714 hS711 hb_ hp_
    obtain ⟨b0_, b1_, b2_, b3_, b4_, b5_, b6_, b7_, b8_, b9_, b10_, b11_, b12_, b13_, b14_, _⟩ := hb_
    obtain ⟨p0_, _⟩ := hp_
    have p0_ : r_ 88 = .bool (true) := p0_
    refine WL_unguard (yl_eq (d := 88) rfl p0_) ?_
    refine WL.val1 (R_move (v := .int .i64 (0)) b7_) ?_
    refine WL.nil ?_
    exact ⟨rfl, _, _, rfl, (Hp.le_refl _), rfl, hS711⟩
  · intro r_ w716 h717 hl718 hS715 hb_ hp_
    obtain ⟨b0_, b1_, b2_, b3_, b4_, b5_, b6_, b7_, b8_, b9_, b10_, b11_, b12_, b13_, b14_, _⟩ := hb_
    obtain ⟨p0_, p1_, _⟩ := hp_
    have p0_ : r_ 89 = .int .i64 (0) := p0_
    have p1_ : r_ 88 = .bool (true) := p1_
    refine WL_unguard (yl_eq (d := 88) rfl p1_) ?_
    refine WL.val1 (R_cast (R_eql (a := 0) (b := 0) p0_ rfl) (bool_true (by decide +kernel))) ?_
    refine WL.nil ?_
    exact ⟨rfl, _, _, rfl, (Hp.le_refl _), rfl, hS715⟩
  · intro r_ w720 h721 hl722 hS719 hb_ hp_
    obtain ⟨b0_, b1_, b2_, b3_, b4_, b5_, b6_, b7_, b8_, b9_, b10_, b11_, b12_, b13_, b14_, _⟩ := hb_
    obtain ⟨p0_, p1_, _⟩ := hp_
    have p0_ : r_ 88 = .bool (true) := p0_
    have p1_ : r_ 90 = .bool (true) := p1_
    refine WL.val1 (R_pick (cb := true) (v := .bool (true)) p0_ (fun _ => p1_) (fun h => by cases h)) ?_
    refine WL.nil ?_
    exact ⟨rfl, _, _, rfl, (Hp.le_refl _), rfl, hS719⟩
  · intro r_ w724 h725 hl726 hS723 hb_ hp_
    obtain ⟨b0_, b1_, b2_, b3_, b4_, b5_, b6_, b7_, b8_, b9_, b10_, b11_, b12_, b13_, b14_, _⟩ := hb_
    obtain ⟨p0_, p1_, _⟩ := hp_
    have p0_ : r_ 91 = .bool (true) := p0_
    have p1_ : r_ 88 = .bool (true) := p1_
    refine WL.val1 (R_move (v := .bool (true)) p0_) ?_
    refine WL.nil ?_
    exact ⟨rfl, _, _, rfl, (Hp.le_refl _), rfl, hS723⟩
  · intro r_ w728 h729 hl730 hS727 hb_ hp_
    obtain ⟨b0_, b1_, b2_, b3_, b4_, b5_, b6_, b7_, b8_, b9_, b10_, b11_, b12_, b13_, b14_, _⟩ := hb_
    obtain ⟨p0_, _⟩ := hp_
    have p0_ : r_ 92 = .bool (true) := p0_
    refine WL_unguard (yl_eq (d := 92) rfl p0_) ?_
    refine WL.val1 (R_move (v := .int .i64 (5)) b8_) ?_
    refine WL.nil ?_
    exact ⟨rfl, _, _, rfl, (Hp.le_refl _), rfl, hS727⟩
  · intro r_ w732 h733 hl734 hS731 hb_ hp_
    obtain ⟨b0_, b1_, b2_, b3_, b4_, b5_, b6_, b7_, b8_, b9_, b10_, b11_, b12_, b13_, b14_, _⟩ := hb_
    obtain ⟨p0_, p1_, _⟩ := hp_
    have p0_ : r_ 93 = .int .i64 (5) := p0_
    have p1_ : r_ 92 = .bool (true) := p1_
    refine WL_unguard (yl_eq (d := 92) rfl p1_) ?_
    refine WL.val1 (R_cast (R_eql (a := 5) (b := 5) p0_ rfl) (bool_true (by decide +kernel))) ?_
    refine WL.nil ?_
    exact ⟨rfl, _, _, rfl, (Hp.le_refl _), rfl, hS731⟩
  · intro r_ w736 h737 hl738 hS735 hb_ hp_
    obtain ⟨b0_, b1_, b2_, b3_, b4_, b5_, b6_, b7_, b8_, b9_, b10_, b11_, b12_, b13_, b14_, _⟩ := hb_
    obtain ⟨p0_, p1_, _⟩ := hp_
    have p0_ : r_ 92 = .bool (true) := p0_
    have p1_ : r_ 94 = .bool (true) := p1_
    refine WL.val1 (R_pick (cb := true) (v := .bool (true)) p0_ (fun _ => p1_) (fun h => by cases h)) ?_
    refine WL.nil ?_
    exact ⟨rfl, _, _, rfl, (Hp.le_refl _), rfl, hS735⟩
  · intro r_ w740 h741 hl742 hS739 hb_ hp_
    obtain ⟨b0_, b1_, b2_, b3_, b4_, b5_, b6_, b7_, b8_, b9_, b10_, b11_, b12_, b13_, b14_, _⟩ := hb_
    obtain ⟨p0_, p1_, _⟩ := hp_
    have p0_ : r_ 95 = .bool (true) := p0_
    have p1_ : r_ 92 = .bool (true) := p1_
    refine WL.val1 (R_move (v := .bool (true)) p0_) ?_
    refine WL.nil ?_
    exact ⟨rfl, _, _, rfl, (Hp.le_refl _), rfl, hS739⟩
  · intro r_ w744 h745 hl746 hS743 hb_ hp_
    obtain ⟨b0_, b1_, b2_, b3_, b4_, b5_, b6_, b7_, b8_, b9_, b10_, b11_, b12_, b13_, b14_, _⟩ := hb_
    obtain ⟨p0_, _⟩ := hp_
    have p0_ : r_ 96 = .bool (true) := p0_
    refine WL_unguard (yl_eq (d := 96) rfl p0_) ?_
    refine WL.val1 (R_move (v := .int .i64 (5)) b9_) ?_
    refine WL.nil ?_
    exact ⟨rfl, _, _, rfl, (Hp.le_refl _), rfl, hS743⟩
  · intro r_ w748 h749 hl750 hS747 hb_ hp_
    obtain ⟨b0_, b1_, b2_, b3_, b4_, b5_, b6_, b7_, b8_, b9_, b10_, b11_, b12_, b13_, b14_, _⟩ := hb_
    obtain ⟨p0_, p1_, _⟩ := hp_
    have p0_ : r_ 97 = .int .i64 (5) := p0_
    have p1_ : r_ 96 = .bool (true) := p1_
    refine WL_unguard (yl_eq (d := 96) rfl p1_) ?_
    refine WL.val1 (R_cast (R_eql (a := 5) (b := 5) p0_ rfl) (bool_true (by decide +kernel))) ?_
    refine WL.nil ?_
    exact ⟨rfl, _, _, rfl, (Hp.le_refl _), rfl, hS747⟩
  · intro r_ w752 h753 hl754 hS751 hb_ hp_
    obtain ⟨b0_, b1_, b2_, b3_, b4_, b5_, b6_, b7_, b8_, b9_, b10_, b11_, b12_, b13_, b14_, _⟩ := hb_
    obtain ⟨p0_, p1_, _⟩ := hp_
    have p0_ : r_ 96 = .bool (true) := p0_
    have p1_ : r_ 98 = .bool (true) := p1_
    refine WL.val1 (R_pick (cb := true) (v := .bool (true)) p0_ (fun _ => p1_) (fun h => by cases h)) ?_
    refine WL.nil ?_
    exact ⟨rfl, _, _, rfl, (Hp.le_refl _), rfl, hS751⟩
  · intro r_ w756 h757 hl758 hS755 hb_ hp_
    obtain ⟨b0_, b1_, b2_, b3_, b4_, b5_, b6_, b7_, b8_, b9_, b10_, b11_, b12_, b13_, b14_, _⟩ := hb_
    obtain ⟨p0_, p1_, _⟩ := hp_
    have p0_ : r_ 99 = .bool (true) := p0_
    have p1_ : r_ 96 = .bool (true) := p1_
    refine WL.val1 (R_move (v := .bool (true)) p0_) ?_
    refine WL.nil ?_
    exact ⟨rfl, _, _, rfl, (Hp.le_refl _), rfl, hS755⟩
  · intro r_ w760 h761 hl762 hS759 hb_ hp_
    obtain ⟨b0_, b1_, b2_, b3_, b4_, b5_, b6_, b7_, b8_, b9_, b10_, b11_, b12_, b13_, b14_, _⟩ := hb_
    obtain ⟨p0_, _⟩ := hp_
    have p0_ : r_ 100 = .bool (true) := p0_
    refine WL_unguard (yl_eq (d := 100) rfl p0_) ?_
    refine WL.val1 (R_loadA (cs := [.string (B (([114] : Str))), .slice (some ⟨b5, 0, none⟩) 2 (2), .slice (some ⟨b11, 0, none⟩) 1 (1)]) b1_ (hS759.has (i := 2) rfl) (Tryd.isAgg35 _) (Tryd.sizeOf35 _) rfl (sub_cells rfl)) ?_
    refine WL.nil ?_
    exact ⟨rfl, _, _, rfl, (Hp.le_refl _), rfl, hS759⟩
  · intro r_ w764 h765 hl766 hS763 hb_ hp_
    obtain ⟨b0_, b1_, b2_, b3_, b4_, b5_, b6_, b7_, b8_, b9_, b10_, b11_, b12_, b13_, b14_, _⟩ := hb_
    obtain ⟨p0_, _⟩ := hp_
    have p0_ : r_ 100 = .bool (true) := p0_
    refine WL_unguard (yl_eq (d := 100) rfl p0_) ?_
    refine WL.val1 (R_move (v := .slice (some ⟨b57, 0, none⟩) 2 (2)) b10_) ?_
    refine WL.nil ?_
    exact ⟨rfl, _, _, rfl, (Hp.le_refl _), rfl, hS763⟩
  · intro r_ w768 h769 hl770 hS767 hb_ hp_
    obtain ⟨b0_, b1_, b2_, b3_, b4_, b5_, b6_, b7_, b8_, b9_, b10_, b11_, b12_, b13_, b14_, _⟩ := hb_
    obtain ⟨p0_, p1_, p2_, p3_, _⟩ := hp_
    have p0_ : r_ 101 = .agg #[.string (B (([114] : Str))), .slice (some ⟨b5, 0, none⟩) 2 (2), .slice (some ⟨b11, 0, none⟩) 1 (1)] := p0_
    have p1_ : r_ 102 = .slice (some ⟨b57, 0, none⟩) 2 (2) := p1_
    have p2_ : r_ 100 = .bool (true) := p2_
    have p3_ : r_ 100 = .bool (true) := p3_
    refine WL_unguard (yl_eq (d := 100) rfl p3_) ?_
    refine S_callP (vs := [.agg #[.string (B (([114] : Str))), .slice (some ⟨b5, 0, none⟩) 2 (2), .slice (some ⟨b11, 0, none⟩) 1 (1)], .slice (some ⟨b57, 0, none⟩) 2 (2)]) hS767 Tryd.call10 (hmap2 p0_ p1_) (by have k_ := (rec_Fresh (fx1) (some ⟨b5, 0, none⟩) (2) (some ⟨b11, 0, none⟩) (1) (fm1) (some ⟨b57, 0, none⟩) (2) (by first | assumption | omega | decide +kernel) (by first | assumption | omega | decide +kernel) (by first | assumption | omega | decide +kernel)); simp only [fx_fresh] at k_; exact k_) (by exact ⟨(hs6.mono (((((((((hl10.trans hl20).trans hl28).trans hl39).trans hl48).trans hl56).trans hl62).trans hl78).trans hl94).trans hl770)), (hs12.mono ((((((((hl20.trans hl28).trans hl39).trans hl48).trans hl56).trans hl62).trans hl78).trans hl94).trans hl770)), (hs58.mono (((hl62.trans hl78).trans hl94).trans hl770))⟩) ?_
    intro w772 hS771
    refine WL.nil ?_
    exact ⟨rfl, _, _, rfl, (Hp.le_refl _), rfl, hS771⟩
  · intro r_ w774 h775 hl776 hS773 hb_ hp_
    obtain ⟨b0_, b1_, b2_, b3_, b4_, b5_, b6_, b7_, b8_, b9_, b10_, b11_, b12_, b13_, b14_, _⟩ := hb_
    obtain ⟨p0_, p1_, _⟩ := hp_
    have p0_ : r_ 100 = .bool (true) := p0_
    have p1_ : r_ 103 = .bool (true) := p1_
    refine WL.val1 (R_pick (cb := true) (v := .bool (true)) p0_ (fun _ => p1_) (fun h => by cases h)) ?_
    refine WL.nil ?_
    exact ⟨rfl, _, _, rfl, (Hp.le_refl _), rfl, hS773⟩
  · intro r_ w778 h779 hl780 hS777 hb_ hp_
    obtain ⟨b0_, b1_, b2_, b3_, b4_, b5_, b6_, b7_, b8_, b9_, b10_, b11_, b12_, b13_, b14_, _⟩ := hb_
    obtain ⟨p0_, p1_, _⟩ := hp_
    have p0_ : r_ 104 = .bool (true) := p0_
    have p1_ : r_ 103 = .bool (true) := p1_
    refine WL.val1 (R_move (v := .bool (true)) p0_) ?_
    refine WL.nil ?_
    exact ⟨rfl, _, _, rfl, (Hp.le_refl _), rfl, hS777⟩
  · intro r_ w782 h783 hl784 hS781 hb_ hp_
    obtain ⟨b0_, b1_, b2_, b3_, b4_, b5_, b6_, b7_, b8_, b9_, b10_, b11_, b12_, b13_, b14_, _⟩ := hb_
    obtain ⟨p0_, _⟩ := hp_
    have p0_ : r_ 105 = .bool (true) := p0_
    refine WL_unguard (yl_eq (d := 105) rfl p0_) ?_
    refine WL.val1 (R_loadA (cs := [.string (B (([114] : Str))), .slice (some ⟨b5, 0, none⟩) 2 (2), .slice (some ⟨b11, 0, none⟩) 1 (1)]) b1_ (hS781.has (i := 2) rfl) (Tryd.isAgg35 _) (Tryd.sizeOf35 _) rfl (sub_cells rfl)) ?_
    refine WL.nil ?_
    exact ⟨rfl, _, _, rfl, (Hp.le_refl _), rfl, hS781⟩
  · intro r_ w786 h787 hl788 hS785 hb_ hp_
    obtain ⟨b0_, b1_, b2_, b3_, b4_, b5_, b6_, b7_, b8_, b9_, b10_, b11_, b12_, b13_, b14_, _⟩ := hb_
    obtain ⟨p0_, _⟩ := hp_
    have p0_ : r_ 105 = .bool (true) := p0_
    refine WL_unguard (yl_eq (d := 105) rfl p0_) ?_
    refine WL.val1 (R_move (v := .slice (some ⟨b57, 0, none⟩) 2 (2)) b10_) ?_
    refine WL.nil ?_
    exact ⟨rfl, _, _, rfl, (Hp.le_refl _), rfl, hS785⟩
  · intro r_ w790 h791 hl792 hS789 hb_ hp_
    obtain ⟨b0_, b1_, b2_, b3_, b4_, b5_, b6_, b7_, b8_, b9_, b10_, b11_, b12_, b13_, b14_, _⟩ := hb_
    obtain ⟨p0_, p1_, _⟩ := hp_
    have p0_ : r_ 107 = .slice (some ⟨b57, 0, none⟩) 2 (2) := p0_
    have p1_ : r_ 105 = .bool (true) := p1_
    refine WL_unguard (yl_eq (d := 105) rfl p1_) ?_
    obtain ⟨a793, ha794⟩ : ∃ a_ : Option Addr, a_ = (if 2 = 1 then some ⟨b57, 0, none⟩ else (some ⟨b57, 0, none⟩ : Option Addr).map (·.add (1 * 2))) := ⟨_, rfl⟩
    have hs795 := (by rw [ha794]; exact ((hs58.mono (((hl62.trans hl78).trans hl94).trans hl792)).from 1 (by omega)) : Sl RFile h791 (fm1.drop 1) a793 ((2 - 1)))
    refine WL.val1 (R_cast (v' := .slice (a793) ((fm1.drop 1)).length ((2 - 1))) (R_sll (m := 1) p0_ rfl Tryd.underlying23 (Tryd.sizeOf53 _) (by first | rfl | (omega)) (by omega)) (by rw [ha794]; exact congrArg (fun q_ => Value.slice _ q_ _) (by (try simp only [List.length_drop, List.length_append, List.length_cons, List.length_nil]); try omega))) ?_
    refine WL.nil ?_
    exact ⟨rfl, _, _, rfl, (Hp.le_refl _), ⟨a793, (2 - 1), rfl, hs795⟩, hS789⟩
  · intro r_ w800 h801 hl802 hS799 hb_ hp_
    obtain ⟨b0_, b1_, b2_, b3_, b4_, b5_, b6_, b7_, b8_, b9_, b10_, b11_, b12_, b13_, b14_, _⟩ := hb_
    obtain ⟨p0_, p1_, p2_, p3_, _⟩ := hp_
    have p0_ : r_ 106 = .agg #[.string (B (([114] : Str))), .slice (some ⟨b5, 0, none⟩) 2 (2), .slice (some ⟨b11, 0, none⟩) 1 (1)] := p0_
    obtain ⟨a803, c804, p1_, hs805⟩ := p1_
    have p2_ : r_ 105 = .bool (true) := p2_
    have p3_ : r_ 105 = .bool (true) := p3_
    refine WL_unguard (yl_eq (d := 105) rfl p3_) ?_
    refine S_callP (vs := [.agg #[.string (B (([114] : Str))), .slice (some ⟨b5, 0, none⟩) 2 (2), .slice (some ⟨b11, 0, none⟩) 1 (1)], .slice (a803) ((fm1.drop 1)).length (c804)]) hS799 Tryd.call10 (hmap2 p0_ p1_) (by have k_ := (rec_Fresh (fx1) (some ⟨b5, 0, none⟩) (2) (some ⟨b11, 0, none⟩) (1) ((fm1.drop 1)) (a803) (c804) (by first | assumption | omega | decide +kernel) (by first | assumption | omega | decide +kernel) (by first | assumption | omega | decide +kernel)); simp only [fx_fresh1] at k_; exact k_) (by exact ⟨(hs6.mono (((((((((hl10.trans hl20).trans hl28).trans hl39).trans hl48).trans hl56).trans hl62).trans hl78).trans hl94).trans hl802)), (hs12.mono ((((((((hl20.trans hl28).trans hl39).trans hl48).trans hl56).trans hl62).trans hl78).trans hl94).trans hl802)), hs805⟩) ?_
    intro w807 hS806
    refine WL.nil ?_
    exact ⟨rfl, _, _, rfl, (Hp.le_refl _), rfl, hS806⟩
  · intro r_ w809 h810 hl811 hS808 hb_ hp_
    obtain ⟨b0_, b1_, b2_, b3_, b4_, b5_, b6_, b7_, b8_, b9_, b10_, b11_, b12_, b13_, b14_, _⟩ := hb_
    obtain ⟨p0_, p1_, _⟩ := hp_
    have p0_ : r_ 109 = .bool (false) := p0_
    have p1_ : r_ 105 = .bool (true) := p1_
    refine WL_unguard (yl_eq (d := 105) rfl p1_) ?_
    refine WL.val1 (R_cast (R_not (b := false) p0_) (bool_true (by decide +kernel))) ?_
    refine WL.nil ?_
    exact ⟨rfl, _, _, rfl, (Hp.le_refl _), rfl, hS808⟩
  · intro r_ w813 h814 hl815 hS812 hb_ hp_
    obtain ⟨b0_, b1_, b2_, b3_, b4_, b5_, b6_, b7_, b8_, b9_, b10_, b11_, b12_, b13_, b14_, _⟩ := hb_
    obtain ⟨p0_, p1_, _⟩ := hp_
    have p0_ : r_ 105 = .bool (true) := p0_
    have p1_ : r_ 110 = .bool (true) := p1_
    refine WL.val1 (R_pick (cb := true) (v := .bool (true)) p0_ (fun _ => p1_) (fun h => by cases h)) ?_
    refine WL.nil ?_
    exact ⟨rfl, _, _, rfl, (Hp.le_refl _), rfl, hS812⟩
  · intro r_ w817 h818 hl819 hS816 hb_ hp_
    obtain ⟨b0_, b1_, b2_, b3_, b4_, b5_, b6_, b7_, b8_, b9_, b10_, b11_, b12_, b13_, b14_, _⟩ := hb_
    obtain ⟨p0_, p1_, _⟩ := hp_
    have p0_ : r_ 111 = .bool (true) := p0_
    have p1_ : r_ 109 = .bool (false) := p1_
    refine WL.val1 (R_move (v := .bool (true)) p0_) ?_
    refine WL.nil ?_
    exact ⟨rfl, _, _, rfl, (Hp.le_refl _), rfl, hS816⟩
  · intro r_ w821 h822 hl823 hS820 hb_ hp_
    obtain ⟨b0_, b1_, b2_, b3_, b4_, b5_, b6_, b7_, b8_, b9_, b10_, b11_, b12_, b13_, b14_, _⟩ := hb_
    obtain ⟨p0_, _⟩ := hp_
    have p0_ : r_ 112 = .bool (true) := p0_
    refine WL_unguard (yl_eq (d := 112) rfl p0_) ?_
    refine WL.val1 (R_loadA (cs := [.string (B (([114] : Str))), .slice (some ⟨b5, 0, none⟩) 2 (2), .slice (some ⟨b11, 0, none⟩) 1 (1)]) b1_ (hS820.has (i := 2) rfl) (Tryd.isAgg35 _) (Tryd.sizeOf35 _) rfl (sub_cells rfl)) ?_
    refine WL.nil ?_
    exact ⟨rfl, _, _, rfl, (Hp.le_refl _), rfl, hS820⟩
  · intro r_ w825 h826 hl827 hS824 hb_ hp_
    obtain ⟨b0_, b1_, b2_, b3_, b4_, b5_, b6_, b7_, b8_, b9_, b10_, b11_, b12_, b13_, b14_, _⟩ := hb_
    obtain ⟨p0_, _⟩ := hp_
    have p0_ : r_ 112 = .bool (true) := p0_
    refine WL_unguard (yl_eq (d := 112) rfl p0_) ?_
    refine WL.val1 (R_move (v := .slice (some ⟨b57, 0, none⟩) 2 (2)) b10_) ?_
    refine WL.nil ?_
    exact ⟨rfl, _, _, rfl, (Hp.le_refl _), rfl, hS824⟩
  · intro r_ w829 h830 hl831 hS828 hb_ hp_
    obtain ⟨b0_, b1_, b2_, b3_, b4_, b5_, b6_, b7_, b8_, b9_, b10_, b11_, b12_, b13_, b14_, _⟩ := hb_
    obtain ⟨p0_, p1_, _⟩ := hp_
    have p0_ : r_ 114 = .slice (some ⟨b57, 0, none⟩) 2 (2) := p0_
    have p1_ : r_ 112 = .bool (true) := p1_
    refine WL_unguard (yl_eq (d := 112) rfl p1_) ?_
    obtain ⟨a832, ha833⟩ : ∃ a_ : Option Addr, a_ = (if 2 = 0 then some ⟨b57, 0, none⟩ else (some ⟨b57, 0, none⟩ : Option Addr).map (·.add (0 * 2))) := ⟨_, rfl⟩
    have hs834 := (by rw [ha833]; exact ((hs58.mono (((hl62.trans hl78).trans hl94).trans hl831)).upto 1 (by omega)) : Sl RFile h830 (fm1.take 1) a832 (2))
    refine WL.val1 (R_cast (v' := .slice (a832) ((fm1.take 1)).length (2)) (R_slh (m := 1) p0_ rfl Tryd.underlying23 (Tryd.sizeOf53 _) (by first | rfl | (omega)) (by have hc_ := (hs58.mono (((hl62.trans hl78).trans hl94).trans hl831)).1; omega)) (by rw [ha833]; exact congrArg (fun q_ => Value.slice _ q_ _) (by (try simp only [List.length_take, List.length_append, List.length_cons, List.length_nil]); omega))) ?_
    refine WL.nil ?_
    exact ⟨rfl, _, _, rfl, (Hp.le_refl _), ⟨a832, 2, rfl, hs834⟩, hS828⟩
  · intro r_ w839 h840 hl841 hS838 hb_ hp_
    obtain ⟨b0_, b1_, b2_, b3_, b4_, b5_, b6_, b7_, b8_, b9_, b10_, b11_, b12_, b13_, b14_, _⟩ := hb_
    obtain ⟨p0_, p1_, p2_, p3_, _⟩ := hp_
    have p0_ : r_ 113 = .agg #[.string (B (([114] : Str))), .slice (some ⟨b5, 0, none⟩) 2 (2), .slice (some ⟨b11, 0, none⟩) 1 (1)] := p0_
    obtain ⟨a842, c843, p1_, hs844⟩ := p1_
    have p2_ : r_ 112 = .bool (true) := p2_
    have p3_ : r_ 112 = .bool (true) := p3_
    refine WL_unguard (yl_eq (d := 112) rfl p3_) ?_
    refine S_callP (vs := [.agg #[.string (B (([114] : Str))), .slice (some ⟨b5, 0, none⟩) 2 (2), .slice (some ⟨b11, 0, none⟩) 1 (1)], .slice (a842) ((fm1.take 1)).length (c843)]) hS838 Tryd.call10 (hmap2 p0_ p1_) (by have k_ := (rec_Fresh (fx1) (some ⟨b5, 0, none⟩) (2) (some ⟨b11, 0, none⟩) (1) ((fm1.take 1)) (a842) (c843) (by first | assumption | omega | decide +kernel) (by first | assumption | omega | decide +kernel) (by first | assumption | omega | decide +kernel)); simp only [fx_fresh2] at k_; exact k_) (by exact ⟨(hs6.mono (((((((((hl10.trans hl20).trans hl28).trans hl39).trans hl48).trans hl56).trans hl62).trans hl78).trans hl94).trans hl841)), (hs12.mono ((((((((hl20.trans hl28).trans hl39).trans hl48).trans hl56).trans hl62).trans hl78).trans hl94).trans hl841)), hs844⟩) ?_
    intro w846 hS845
    refine WL.nil ?_
    exact ⟨rfl, _, _, rfl, (Hp.le_refl _), rfl, hS845⟩
  · intro r_ w848 h849 hl850 hS847 hb_ hp_
    obtain ⟨b0_, b1_, b2_, b3_, b4_, b5_, b6_, b7_, b8_, b9_, b10_, b11_, b12_, b13_, b14_, _⟩ := hb_
    obtain ⟨p0_, p1_, _⟩ := hp_
    have p0_ : r_ 116 = .bool (false) := p0_
    have p1_ : r_ 112 = .bool (true) := p1_
    refine WL_unguard (yl_eq (d := 112) rfl p1_) ?_
    refine WL.val1 (R_cast (R_not (b := false) p0_) (bool_true (by decide +kernel))) ?_
    refine WL.nil ?_
    exact ⟨rfl, _, _, rfl, (Hp.le_refl _), rfl, hS847⟩
  · intro r_ w852 h853 hl854 hS851 hb_ hp_
    obtain ⟨b0_, b1_, b2_, b3_, b4_, b5_, b6_, b7_, b8_, b9_, b10_, b11_, b12_, b13_, b14_, _⟩ := hb_
    obtain ⟨p0_, p1_, _⟩ := hp_
    have p0_ : r_ 112 = .bool (true) := p0_
    have p1_ : r_ 117 = .bool (true) := p1_
    refine WL.val1 (R_pick (cb := true) (v := .bool (true)) p0_ (fun _ => p1_) (fun h => by cases h)) ?_
    refine WL.nil ?_
    exact ⟨rfl, _, _, rfl, (Hp.le_refl _), rfl, hS851⟩
  · intro r_ w856 h857 hl858 hS855 hb_ hp_
    obtain ⟨b0_, b1_, b2_, b3_, b4_, b5_, b6_, b7_, b8_, b9_, b10_, b11_, b12_, b13_, b14_, _⟩ := hb_
    obtain ⟨p0_, p1_, _⟩ := hp_
    have p0_ : r_ 118 = .bool (true) := p0_
    have p1_ : r_ 116 = .bool (false) := p1_
    refine WL.val1 (R_move (v := .bool (true)) p0_) ?_
    refine WL.nil ?_
    exact ⟨rfl, _, _, rfl, (Hp.le_refl _), rfl, hS855⟩
  · intro r_ w860 h861 hl862 hS859 hb_ hp_
    obtain ⟨b0_, b1_, b2_, b3_, b4_, b5_, b6_, b7_, b8_, b9_, b10_, b11_, b12_, b13_, b14_, _⟩ := hb_
    obtain ⟨p0_, _⟩ := hp_
    have p0_ : r_ 119 = .bool (true) := p0_
    refine WL_unguard (yl_eq (d := 119) rfl p0_) ?_
    refine WL.val1 (R_move (v := .slice (some ⟨b57, 0, none⟩) 2 (2)) b10_) ?_
    refine WL.nil ?_
    exact ⟨rfl, _, _, rfl, (Hp.le_refl _), rfl, hS859⟩
  · intro r_ w864 h865 hl866 hS863 hb_ hp_
    obtain ⟨b0_, b1_, b2_, b3_, b4_, b5_, b6_, b7_, b8_, b9_, b10_, b11_, b12_, b13_, b14_, _⟩ := hb_
    obtain ⟨p0_, _⟩ := hp_
    have p0_ : r_ 119 = .bool (true) := p0_
    refine WL_unguard (yl_eq (d := 119) rfl p0_) ?_
    refine S_buildSliceC (R := Rstr) (m := 3) (vs := [(0, .string (B (([97] : Str)))), (1, .string (B (([98] : Str)))), (2, .string (B (([97] : Str))))]) (cells := [.string (B (([97] : Str))), .string (B (([98] : Str))), .string (B (([97] : Str)))]) (xs := [([97] : Str), ([98] : Str), ([97] : Str)]) hS863 Tryd.underlying24 Tryd.sizeOf9 Tryd.zeroValue9 (by decide) (by decide) rfl (by kernel_rfl) (by exact (⟨[.string (B (([97] : Str)))], _, rfl, rfl, ⟨[.string (B (([98] : Str)))], _, rfl, rfl, ⟨[.string (B (([97] : Str)))], _, rfl, rfl, rfl⟩⟩⟩ : Flat Rstr _ [([97] : Str), ([98] : Str), ([97] : Str)] _)) rfl ?_
    intro h869 b871 w868 hl870 hs872 hS867
    refine WL.nil ?_
    exact ⟨rfl, _, _, rfl, hl870, ⟨b871, rfl, hs872⟩, hS867⟩
  · intro r_ w876 h877 hl878 hS875 hb_ hp_
    obtain ⟨b0_, b1_, b2_, b3_, b4_, b5_, b6_, b7_, b8_, b9_, b10_, b11_, b12_, b13_, b14_, _⟩ := hb_
    obtain ⟨p0_, p1_, p2_, p3_, _⟩ := hp_
    have p0_ : r_ 120 = .slice (some ⟨b57, 0, none⟩) 2 (2) := p0_
    obtain ⟨b879, p1_, hs880⟩ := p1_
    have p2_ : r_ 119 = .bool (true) := p2_
    have p3_ : r_ 119 = .bool (true) := p3_
    refine WL_unguard (yl_eq (d := 119) rfl p3_) ?_
    refine S_callF (vs := [.slice (some ⟨b57, 0, none⟩) 2 (2), .slice (some ⟨b879, 0, none⟩) 3 (3)]) hS875 Tryd.call8 (hmap2 p0_ p1_) (by have k_ := (rec_Look (fm1) (some ⟨b57, 0, none⟩) (2) ([([97] : Str), ([98] : Str), ([97] : Str)]) (some ⟨b879, 0, none⟩) (3) (by first | assumption | omega | decide +kernel) (by first | assumption | omega | decide +kernel)); simp only [fx_look] at k_; exact k_) (by exact ⟨(hs58.mono (((hl62.trans hl78).trans hl94).trans hl878)), hs880⟩) ?_
    intro h883 v885 w882 hl884 hp886 hS881
    obtain ⟨a887, c888, rfl, hf889⟩ := hp886
    refine WL.nil ?_
    exact ⟨rfl, _, _, rfl, hl884, ⟨a887, c888, rfl, hf889⟩, hS881⟩
  · intro r_ w894 h895 hl896 hS893 hb_ hp_
    obtain ⟨b0_, b1_, b2_, b3_, b4_, b5_, b6_, b7_, b8_, b9_, b10_, b11_, b12_, b13_, b14_, _⟩ := hb_
    obtain ⟨p0_, p1_, p2_, _⟩ := hp_
    obtain ⟨a897, c898, p0_, hs899⟩ := p0_
    obtain ⟨a900, c901, p1_, hs902⟩ := p1_
    have p2_ : r_ 119 = .bool (true) := p2_
    refine WL_unguard (yl_eq (d := 119) rfl p2_) ?_
    refine S_callF (vs := [.slice (a900) (([⟨[97], false, []⟩, ⟨[98], true, [116]⟩] : List Seen)).length (c901)]) hS893 Tryd.call7 (hmap1 p1_) (law_Seens (([⟨[97], false, []⟩, ⟨[98], true, [116]⟩] : List Seen)) (a900) (c901) (by first | assumption | omega | decide +kernel)) hs902 ?_
    intro h905 v907 w904 hl906 hp908 hS903
    obtain ⟨a909, c910, rfl, hf911⟩ := hp908
    refine WL.nil ?_
    exact ⟨rfl, _, _, rfl, hl906, ⟨a909, c910, rfl, hf911⟩, hS903⟩
  · intro r_ w916 h917 hl918 hS915 hb_ hp_
    obtain ⟨b0_, b1_, b2_, b3_, b4_, b5_, b6_, b7_, b8_, b9_, b10_, b11_, b12_, b13_, b14_, _⟩ := hb_
    obtain ⟨p0_, _⟩ := hp_
    have p0_ : r_ 119 = .bool (true) := p0_
    refine WL_unguard (yl_eq (d := 119) rfl p0_) ?_
    refine WL.val1 (R_build (vs := [(0, .string (B (([97] : Str))))]) (v := .agg #[.string (B (([97] : Str))), .bool (false), .string (B (([] : Str)))]) rfl (fun _ => by kernel_rfl)) ?_
    refine WL.nil ?_
    exact ⟨rfl, _, _, rfl, (Hp.le_refl _), rfl, hS915⟩
  · intro r_ w920 h921 hl922 hS919 hb_ hp_
    obtain ⟨b0_, b1_, b2_, b3_, b4_, b5_, b6_, b7_, b8_, b9_, b10_, b11_, b12_, b13_, b14_, _⟩ := hb_
    obtain ⟨p0_, _⟩ := hp_
    have p0_ : r_ 119 = .bool (true) := p0_
    refine WL_unguard (yl_eq (d := 119) rfl p0_) ?_
    refine WL.val1 (R_build (vs := [(0, .string (B (([98] : Str)))), (1, .bool (true)), (2, .string (B (([116] : Str))))]) (v := .agg #[.string (B (([98] : Str))), .bool (true), .string (B (([116] : Str)))]) rfl (fun _ => by kernel_rfl)) ?_
    refine WL.nil ?_
    exact ⟨rfl, _, _, rfl, (Hp.le_refl _), rfl, hS919⟩
  · intro r_ w924 h925 hl926 hS923 hb_ hp_
    obtain ⟨b0_, b1_, b2_, b3_, b4_, b5_, b6_, b7_, b8_, b9_, b10_, b11_, b12_, b13_, b14_, _⟩ := hb_
    obtain ⟨p0_, p1_, p2_, _⟩ := hp_
    have p0_ : r_ 124 = .agg #[.string (B (([97] : Str))), .bool (false), .string (B (([] : Str)))] := p0_
    have p1_ : r_ 125 = .agg #[.string (B (([98] : Str))), .bool (true), .string (B (([116] : Str)))] := p1_
    have p2_ : r_ 119 = .bool (true) := p2_
    refine WL_unguard (yl_eq (d := 119) rfl p2_) ?_
    refine S_buildSliceC (R := RSeen2) (m := 2) (vs := [(0, .agg #[.string (B (([97] : Str))), .bool (false), .string (B (([] : Str)))]), (1, .agg #[.string (B (([98] : Str))), .bool (true), .string (B (([116] : Str)))])]) (cells := [.string (B (([97] : Str))), .bool (false), .string (B (([] : Str))), .string (B (([98] : Str))), .bool (true), .string (B (([116] : Str)))]) (xs := [{ name := ([97] : Str), there := false, text := ([] : Str) : Seen }, { name := ([98] : Str), there := true, text := ([116] : Str) : Seen }]) hS923 Tryd.underlying28 Tryd.sizeOf57 Tryd.zeroValue57 (by decide) (by decide) (pmap2 (v := .agg #[.string (B (([97] : Str))), .bool (false), .string (B (([] : Str)))]) (u := .agg #[.string (B (([98] : Str))), .bool (true), .string (B (([116] : Str)))]) p0_ p1_) (by kernel_rfl) (by exact (⟨[.string (B (([97] : Str))), .bool (false), .string (B (([] : Str)))], _, rfl, rfl, ⟨[.string (B (([98] : Str))), .bool (true), .string (B (([116] : Str)))], _, rfl, rfl, rfl⟩⟩ : Flat RSeen2 _ [{ name := ([97] : Str), there := false, text := ([] : Str) : Seen }, { name := ([98] : Str), there := true, text := ([116] : Str) : Seen }] _)) rfl ?_
    intro h929 b931 w928 hl930 hs932 hS927
    refine WL.nil ?_
    exact ⟨rfl, _, _, rfl, hl930, ⟨b931, rfl, hs932⟩, hS927⟩
  · intro r_ w936 h937 hl938 hS935 hb_ hp_
    obtain ⟨b0_, b1_, b2_, b3_, b4_, b5_, b6_, b7_, b8_, b9_, b10_, b11_, b12_, b13_, b14_, _⟩ := hb_
    obtain ⟨p0_, p1_, p2_, p3_, _⟩ := hp_
    obtain ⟨a939, c940, p0_, hs941⟩ := p0_
    obtain ⟨b942, p1_, hs943⟩ := p1_
    obtain ⟨a944, c945, p2_, hs946⟩ := p2_
    have p3_ : r_ 119 = .bool (true) := p3_
    refine WL_unguard (yl_eq (d := 119) rfl p3_) ?_
    refine S_callP (vs := [.slice (a944) ((([⟨[97], false, []⟩, ⟨[98], true, [116]⟩] : List Seen))).length (c945), .slice (some ⟨b942, 0, none⟩) 2 (2)]) hS935 Tryd.call6 (hmap2 p2_ p1_) (ref20_Seens ((([⟨[97], false, []⟩, ⟨[98], true, [116]⟩] : List Seen))) (a944) (c945) ([{ name := ([97] : Str), there := false, text := ([] : Str) : Seen }, { name := ([98] : Str), there := true, text := ([116] : Str) : Seen }]) (some ⟨b942, 0, none⟩) (2) (by first | assumption | omega | decide +kernel) (by first | assumption | omega | decide +kernel)) ⟨hs946, hs943⟩ ?_
    intro w948 hS947
    refine WL.nil ?_
    exact ⟨rfl, _, _, rfl, (Hp.le_refl _), rfl, hS947⟩
  · intro r_ w950 h951 hl952 hS949 hb_ hp_
    obtain ⟨b0_, b1_, b2_, b3_, b4_, b5_, b6_, b7_, b8_, b9_, b10_, b11_, b12_, b13_, b14_, _⟩ := hb_
    obtain ⟨p0_, p1_, _⟩ := hp_
    have p0_ : r_ 119 = .bool (true) := p0_
    have p1_ : r_ 127 = .bool (sameSeens ((([⟨[97], false, []⟩, ⟨[98], true, [116]⟩] : List Seen))) ([{ name := ([97] : Str), there := false, text := ([] : Str) : Seen }, { name := ([98] : Str), there := true, text := ([116] : Str) : Seen }])) := p1_
    refine WL.val1 (R_cast (R_pick (cb := true) (v := .bool (sameSeens ((([⟨[97], false, []⟩, ⟨[98], true, [116]⟩] : List Seen))) ([{ name := ([97] : Str), there := false, text := ([] : Str) : Seen }, { name := ([98] : Str), there := true, text := ([116] : Str) : Seen }]))) p0_ (fun _ => p1_) (fun h => by cases h)) (bool_true (by decide +kernel))) ?_
    refine WL.nil ?_
    exact ⟨rfl, _, _, rfl, (Hp.le_refl _), rfl, hS949⟩
  · intro r_ w954 h955 hl956 hS953 hb_ hp_
    obtain ⟨b0_, b1_, b2_, b3_, b4_, b5_, b6_, b7_, b8_, b9_, b10_, b11_, b12_, b13_, b14_, _⟩ := hb_
    obtain ⟨p0_, p1_, _⟩ := hp_
    have p0_ : r_ 128 = .bool (true) := p0_
    have p1_ : r_ 127 = .bool (sameSeens ((([⟨[97], false, []⟩, ⟨[98], true, [116]⟩] : List Seen))) ([{ name := ([97] : Str), there := false, text := ([] : Str) : Seen }, { name := ([98] : Str), there := true, text := ([116] : Str) : Seen }])) := p1_
    refine WL.val1 (R_move (v := .bool (true)) p0_) ?_
    refine WL.nil ?_
    exact ⟨rfl, _, _, rfl, (Hp.le_refl _), rfl, hS953⟩
  · intro r_ w958 h959 hl960 hS957 hb_ hp_
    obtain ⟨b0_, b1_, b2_, b3_, b4_, b5_, b6_, b7_, b8_, b9_, b10_, b11_, b12_, b13_, b14_, _⟩ := hb_
    obtain ⟨p0_, _⟩ := hp_
    have p0_ : r_ 129 = .bool (true) := p0_
    refine WL_unguard (yl_eq (d := 129) rfl p0_) ?_
    refine WL.val1 (R_fieldAddr (b := w60.heap.size) (off := 0) (m := 0) b11_ (fun _ => by kernel_rfl)) ?_
    refine WL.nil ?_
    exact ⟨rfl, _, _, rfl, (Hp.le_refl _), rfl, hS957⟩
  · intro r_ w962 h963 hl964 hS961 hb_ hp_
    obtain ⟨b0_, b1_, b2_, b3_, b4_, b5_, b6_, b7_, b8_, b9_, b10_, b11_, b12_, b13_, b14_, _⟩ := hb_
    obtain ⟨p0_, p1_, _⟩ := hp_
    have p0_ : r_ 130 = .pointer (some ⟨w60.heap.size, 0, none⟩) := p0_
    have p1_ : r_ 129 = .bool (true) := p1_
    refine WL_unguard (yl_eq (d := 129) rfl p1_) ?_
    refine WL.val1 (R_load (v := .string (B (fx1.name))) p0_ (hS961.has (i := 1) rfl) (Tryd.isAgg9 _) rfl) ?_
    refine WL.nil ?_
    exact ⟨rfl, _, _, rfl, (Hp.le_refl _), rfl, hS961⟩
  · intro r_ w966 h967 hl968 hS965 hb_ hp_
    obtain ⟨b0_, b1_, b2_, b3_, b4_, b5_, b6_, b7_, b8_, b9_, b10_, b11_, b12_, b13_, b14_, _⟩ := hb_
    obtain ⟨p0_, p1_, _⟩ := hp_
    have p0_ : r_ 131 = .string (B (fx1.name)) := p0_
    have p1_ : r_ 129 = .bool (true) := p1_
    refine WL_unguard (yl_eq (d := 129) rfl p1_) ?_
    refine WL.val1 (R_cast (R_seql (a := fx1.name) (b := ([114] : Str)) p0_ rfl) (bool_true (by decide +kernel))) ?_
    refine WL.nil ?_
    exact ⟨rfl, _, _, rfl, (Hp.le_refl _), rfl, hS965⟩
  · intro r_ w970 h971 hl972 hS969 hb_ hp_
    obtain ⟨b0_, b1_, b2_, b3_, b4_, b5_, b6_, b7_, b8_, b9_, b10_, b11_, b12_, b13_, b14_, _⟩ := hb_
    obtain ⟨p0_, p1_, _⟩ := hp_
    have p0_ : r_ 129 = .bool (true) := p0_
    have p1_ : r_ 132 = .bool (true) := p1_
    refine WL.val1 (R_pick (cb := true) (v := .bool (true)) p0_ (fun _ => p1_) (fun h => by cases h)) ?_
    refine WL.nil ?_
    exact ⟨rfl, _, _, rfl, (Hp.le_refl _), rfl, hS969⟩
  · intro r_ w974 h975 hl976 hS973 hb_ hp_
    obtain ⟨b0_, b1_, b2_, b3_, b4_, b5_, b6_, b7_, b8_, b9_, b10_, b11_, b12_, b13_, b14_, _⟩ := hb_
    obtain ⟨p0_, p1_, _⟩ := hp_
    have p0_ : r_ 133 = .bool (true) := p0_
    have p1_ : r_ 129 = .bool (true) := p1_
    refine WL.val1 (R_move (v := .bool (true)) p0_) ?_
    refine WL.nil ?_
    exact ⟨rfl, _, _, rfl, (Hp.le_refl _), rfl, hS973⟩
  · intro r_ w978 h979 hl980 hS977 hb_ hp_
    obtain ⟨b0_, b1_, b2_, b3_, b4_, b5_, b6_, b7_, b8_, b9_, b10_, b11_, b12_, b13_, b14_, _⟩ := hb_
    obtain ⟨p0_, _⟩ := hp_
    have p0_ : r_ 134 = .bool (true) := p0_
    refine WL_unguard (yl_eq (d := 134) rfl p0_) ?_
    refine WL.val1 (R_move (v := .bool (true)) b12_) ?_
    refine WL.nil ?_
    exact ⟨rfl, _, _, rfl, (Hp.le_refl _), rfl, hS977⟩
  · intro r_ w982 h983 hl984 hS981 hb_ hp_
    obtain ⟨b0_, b1_, b2_, b3_, b4_, b5_, b6_, b7_, b8_, b9_, b10_, b11_, b12_, b13_, b14_, _⟩ := hb_
    obtain ⟨p0_, p1_, _⟩ := hp_
    have p0_ : r_ 134 = .bool (true) := p0_
    have p1_ : r_ 135 = .bool (true) := p1_
    refine WL.val1 (R_pick (cb := true) (v := .bool (true)) p0_ (fun _ => p1_) (fun h => by cases h)) ?_
    refine WL.nil ?_
    exact ⟨rfl, _, _, rfl, (Hp.le_refl _), rfl, hS981⟩
  · intro r_ w986 h987 hl988 hS985 hb_ hp_
    obtain ⟨b0_, b1_, b2_, b3_, b4_, b5_, b6_, b7_, b8_, b9_, b10_, b11_, b12_, b13_, b14_, _⟩ := hb_
    obtain ⟨p0_, p1_, _⟩ := hp_
    have p0_ : r_ 136 = .bool (true) := p0_
    have p1_ : r_ 134 = .bool (true) := p1_
    refine WL.val1 (R_move (v := .bool (true)) p0_) ?_
    refine WL.nil ?_
    exact ⟨rfl, _, _, rfl, (Hp.le_refl _), rfl, hS985⟩
  · intro r_ w990 h991 hl992 hS989 hb_ hp_
    obtain ⟨b0_, b1_, b2_, b3_, b4_, b5_, b6_, b7_, b8_, b9_, b10_, b11_, b12_, b13_, b14_, _⟩ := hb_
    obtain ⟨p0_, _⟩ := hp_
    have p0_ : r_ 137 = .bool (true) := p0_
    refine WL_unguard (yl_eq (d := 137) rfl p0_) ?_
    refine WL.val1 (R_move (v := .bool (false)) b13_) ?_
    refine WL.nil ?_
    exact ⟨rfl, _, _, rfl, (Hp.le_refl _), rfl, hS989⟩
  · intro r_ w994 h995 hl996 hS993 hb_ hp_
    obtain ⟨b0_, b1_, b2_, b3_, b4_, b5_, b6_, b7_, b8_, b9_, b10_, b11_, b12_, b13_, b14_, _⟩ := hb_
    obtain ⟨p0_, p1_, _⟩ := hp_
    have p0_ : r_ 138 = .bool (false) := p0_
    have p1_ : r_ 137 = .bool (true) := p1_
    refine WL_unguard (yl_eq (d := 137) rfl p1_) ?_
    refine WL.val1 (R_cast (R_not (b := false) p0_) (bool_true (by decide +kernel))) ?_
    refine WL.nil ?_
    exact ⟨rfl, _, _, rfl, (Hp.le_refl _), rfl, hS993⟩
  · intro r_ w998 h999 hl1000 hS997 hb_ hp_
    obtain ⟨b0_, b1_, b2_, b3_, b4_, b5_, b6_, b7_, b8_, b9_, b10_, b11_, b12_, b13_, b14_, _⟩ := hb_
    obtain ⟨p0_, p1_, _⟩ := hp_
    have p0_ : r_ 137 = .bool (true) := p0_
    have p1_ : r_ 139 = .bool (true) := p1_
    refine WL.val1 (R_pick (cb := true) (v := .bool (true)) p0_ (fun _ => p1_) (fun h => by cases h)) ?_
    refine WL.nil ?_
    exact ⟨rfl, _, _, rfl, (Hp.le_refl _), rfl, hS997⟩
  · intro r_ w1002 h1003 hl1004 hS1001 hb_ hp_
    obtain ⟨b0_, b1_, b2_, b3_, b4_, b5_, b6_, b7_, b8_, b9_, b10_, b11_, b12_, b13_, b14_, _⟩ := hb_
    obtain ⟨p0_, p1_, _⟩ := hp_
    have p0_ : r_ 140 = .bool (true) := p0_
    have p1_ : r_ 137 = .bool (true) := p1_
    refine WL.val1 (R_move (v := .bool (true)) p0_) ?_
    refine WL.nil ?_
    exact ⟨rfl, _, _, rfl, (Hp.le_refl _), rfl, hS1001⟩
  · intro r_ w1006 h1007 hl1008 hS1005 hb_ hp_
    obtain ⟨b0_, b1_, b2_, b3_, b4_, b5_, b6_, b7_, b8_, b9_, b10_, b11_, b12_, b13_, b14_, _⟩ := hb_
    obtain ⟨p0_, _⟩ := hp_
    have p0_ : r_ 141 = .bool (true) := p0_
    refine WL_unguard (yl_eq (d := 141) rfl p0_) ?_
    refine WL.val1 (R_move (v := .slice (a97) ([fx1, fxs]).length (c98)) b14_) ?_
    refine WL.nil ?_
    exact ⟨rfl, _, _, rfl, (Hp.le_refl _), rfl, hS1005⟩
  · intro r_ w1010 h1011 hl1012 hS1009 hb_ hp_
    obtain ⟨b0_, b1_, b2_, b3_, b4_, b5_, b6_, b7_, b8_, b9_, b10_, b11_, b12_, b13_, b14_, _⟩ := hb_
    obtain ⟨p0_, p1_, _⟩ := hp_
    have p0_ : r_ 142 = .slice (a97) ([fx1, fxs]).length (c98) := p0_
    have p1_ : r_ 141 = .bool (true) := p1_
    refine WL_unguard (yl_eq (d := 141) rfl p1_) ?_
    refine WL.val1 (R_len_slice (n := ([fx1, fxs]).length) p0_ Tryd.underlying22) ?_
    refine WL.nil ?_
    exact ⟨rfl, _, _, rfl, (Hp.le_refl _), rfl, hS1009⟩
  · intro r_ w1014 h1015 hl1016 hS1013 hb_ hp_
    obtain ⟨b0_, b1_, b2_, b3_, b4_, b5_, b6_, b7_, b8_, b9_, b10_, b11_, b12_, b13_, b14_, _⟩ := hb_
    obtain ⟨p0_, p1_, _⟩ := hp_
    have p0_ : r_ 143 = .int .i64 (((([fx1, fxs]).length : Nat) : Int)) := p0_
    have p1_ : r_ 141 = .bool (true) := p1_
    refine WL_unguard (yl_eq (d := 141) rfl p1_) ?_
    refine WL.val1 (R_cast (R_eql (a := ((([fx1, fxs]).length : Nat) : Int)) (b := 2) p0_ rfl) (bool_true (by decide +kernel))) ?_
    refine WL.nil ?_
    exact ⟨rfl, _, _, rfl, (Hp.le_refl _), rfl, hS1013⟩
  · intro r_ w1018 h1019 hl1020 hS1017 hb_ hp_
    obtain ⟨b0_, b1_, b2_, b3_, b4_, b5_, b6_, b7_, b8_, b9_, b10_, b11_, b12_, b13_, b14_, _⟩ := hb_
    obtain ⟨p0_, p1_, _⟩ := hp_
    have p0_ : r_ 141 = .bool (true) := p0_
    have p1_ : r_ 144 = .bool (true) := p1_
    refine WL.val1 (R_pick (cb := true) (v := .bool (true)) p0_ (fun _ => p1_) (fun h => by cases h)) ?_
    refine WL.nil ?_
    exact ⟨rfl, _, _, rfl, (Hp.le_refl _), rfl, hS1017⟩
  · intro r_ w1022 h1023 hl1024 hS1021 hb_ hp_
    obtain ⟨b0_, b1_, b2_, b3_, b4_, b5_, b6_, b7_, b8_, b9_, b10_, b11_, b12_, b13_, b14_, _⟩ := hb_
    obtain ⟨p0_, p1_, _⟩ := hp_
    have p0_ : r_ 145 = .bool (true) := p0_
    have p1_ : r_ 141 = .bool (true) := p1_
    refine WL.val1 (R_move (v := .bool (true)) p0_) ?_
    refine WL.nil ?_
    exact ⟨rfl, _, _, rfl, (Hp.le_refl _), rfl, hS1021⟩
  · intro r_ w1026 h1027 hl1028 hS1025 hb_ hp_
    obtain ⟨b0_, b1_, b2_, b3_, b4_, b5_, b6_, b7_, b8_, b9_, b10_, b11_, b12_, b13_, b14_, _⟩ := hb_
    obtain ⟨p0_, _⟩ := hp_
    have p0_ : r_ 146 = .bool (true) := p0_
    refine WL_unguard (yl_eq (d := 146) rfl p0_) ?_
    refine WL.val1 (R_move (v := .slice (a97) ([fx1, fxs]).length (c98)) b14_) ?_
    refine WL.nil ?_
    exact ⟨rfl, _, _, rfl, (Hp.le_refl _), rfl, hS1025⟩
  · intro r_ w1030 h1031 hl1032 hS1029 hb_ hp_
    obtain ⟨b0_, b1_, b2_, b3_, b4_, b5_, b6_, b7_, b8_, b9_, b10_, b11_, b12_, b13_, b14_, _⟩ := hb_
    obtain ⟨p0_, _⟩ := hp_
    have p0_ : r_ 146 = .bool (true) := p0_
    refine WL_unguard (yl_eq (d := 146) rfl p0_) ?_
    refine WL.val1 (R_loadA (cs := [.string (B (([114] : Str))), .slice (some ⟨b5, 0, none⟩) 2 (2), .slice (some ⟨b11, 0, none⟩) 1 (1)]) b1_ (hS1029.has (i := 2) rfl) (Tryd.isAgg35 _) (Tryd.sizeOf35 _) rfl (sub_cells rfl)) ?_
    refine WL.nil ?_
    exact ⟨rfl, _, _, rfl, (Hp.le_refl _), rfl, hS1029⟩
  · intro r_ w1034 h1035 hl1036 hS1033 hb_ hf_
    obtain ⟨b0_, b1_, b2_, b3_, b4_, b5_, b6_, b7_, b8_, b9_, b10_, b11_, b12_, b13_, b14_, _⟩ := hb_
    obtain ⟨q0_, q1_, q2_, q3_, q4_, q5_, q6_, q7_, q8_, q9_, q10_, q11_, q12_, q13_, q14_, q15_, q16_, q17_, q18_, q19_, q20_, q21_, q22_, q23_, q24_, q25_, q26_, q27_, q28_, q29_, q30_, q31_, q32_, q33_, q34_, q35_, q36_, q37_, q38_, q39_, q40_, q41_, q42_, q43_, q44_, q45_, q46_, q47_, q48_, q49_, q50_, q51_, q52_, q53_, q54_, q55_, q56_, q57_, q58_, q59_, q60_, q61_, q62_, q63_, q64_, q65_, q66_, q67_, q68_, q69_, q70_, q71_, q72_, q73_, q74_, q75_, q76_, q77_, q78_, q79_, q80_, q81_, q82_, _⟩ := hf_
    obtain ⟨a1037, c1038, q8_, hs1039⟩ := q8_
    obtain ⟨b1040, q10_, hs1041⟩ := q10_
    obtain ⟨a1042, c1043, q11_, hs1044⟩ := q11_
    obtain ⟨a1045, c1046, q42_, hs1047⟩ := q42_
    obtain ⟨a1048, c1049, q49_, hs1050⟩ := q49_
    obtain ⟨b1051, q55_, hs1052⟩ := q55_
    obtain ⟨a1053, c1054, q56_, hs1055⟩ := q56_
    obtain ⟨a1056, c1057, q57_, hs1058⟩ := q57_
    obtain ⟨b1059, q60_, hs1060⟩ := q60_
    refine WL.frame (((0, .bool (false))) :: ((1, .pointer (some ⟨w8.heap.size, 0, none⟩))) :: ((2, .string (B (fs1)))) :: ((3, .int .i64 (0))) :: ((4, .slice (a31) ([fx1]).length (c32))) :: ((5, .int .i64 (0))) :: ((6, .string (B (([53, 58, 115, 116, 101, 116, 49, 44] : Str))))) :: ((7, .int .i64 (0))) :: ((9, .int .i64 (5))) :: ((11, .int .i64 (5))) :: ((12, .slice (some ⟨b57, 0, none⟩) 2 (2))) :: ((13, .pointer (some ⟨w60.heap.size, 0, none⟩))) :: ((14, .bool (true))) :: ((16, .bool (false))) :: ((17, .slice (a97) ([fx1, fxs]).length (c98))) :: ((66, .string (B (fs1)))) :: ((67, .bool (true))) :: ((68, .bool (true))) :: ((69, .int .i64 (0))) :: ((70, .bool (true))) :: ((71, .bool (true))) :: ((72, .bool (true))) :: ((73, .slice (a31) ([fx1]).length (c32))) :: ((74, .slice (a1037) (([fx1])).length (c1038))) :: ((75, .agg #[.string (B (([114] : Str))), .slice (some ⟨b5, 0, none⟩) 2 (2), .slice (some ⟨b11, 0, none⟩) 1 (1)])) :: ((76, .slice (some ⟨b1040, 0, none⟩) 1 (1))) :: ((77, .slice (a1042) (([fx1])).length (c1043))) :: ((78, .bool (true))) :: ((79, .bool (true))) :: ((80, .bool (true))) :: ((81, .int .i64 (0))) :: ((82, .bool (true))) :: ((83, .bool (true))) :: ((84, .bool (true))) :: ((85, .string (B (([53, 58, 115, 116, 101, 116, 49, 44] : Str))))) :: ((86, .bool (true))) :: ((87, .bool (true))) :: ((88, .bool (true))) :: ((89, .int .i64 (0))) :: ((90, .bool (true))) :: ((91, .bool (true))) :: ((92, .bool (true))) :: ((93, .int .i64 (5))) :: ((94, .bool (true))) :: ((95, .bool (true))) :: ((96, .bool (true))) :: ((97, .int .i64 (5))) :: ((98, .bool (true))) :: ((99, .bool (true))) :: ((100, .bool (true))) :: ((101, .agg #[.string (B (([114] : Str))), .slice (some ⟨b5, 0, none⟩) 2 (2), .slice (some ⟨b11, 0, none⟩) 1 (1)])) :: ((102, .slice (some ⟨b57, 0, none⟩) 2 (2))) :: ((103, .bool (true))) :: ((104, .bool (true))) :: ((105, .bool (true))) :: ((106, .agg #[.string (B (([114] : Str))), .slice (some ⟨b5, 0, none⟩) 2 (2), .slice (some ⟨b11, 0, none⟩) 1 (1)])) :: ((107, .slice (some ⟨b57, 0, none⟩) 2 (2))) :: ((108, .slice (a1045) ((fm1.drop 1)).length (c1046))) :: ((109, .bool (false))) :: ((110, .bool (true))) :: ((111, .bool (true))) :: ((112, .bool (true))) :: ((113, .agg #[.string (B (([114] : Str))), .slice (some ⟨b5, 0, none⟩) 2 (2), .slice (some ⟨b11, 0, none⟩) 1 (1)])) :: ((114, .slice (some ⟨b57, 0, none⟩) 2 (2))) :: ((115, .slice (a1048) ((fm1.take 1)).length (c1049))) :: ((116, .bool (false))) :: ((117, .bool (true))) :: ((118, .bool (true))) :: ((119, .bool (true))) :: ((120, .slice (some ⟨b57, 0, none⟩) 2 (2))) :: ((121, .slice (some ⟨b1051, 0, none⟩) 3 (3))) :: ((122, .slice (a1053) (([⟨[97], false, []⟩, ⟨[98], true, [116]⟩] : List Seen)).length (c1054))) :: ((123, .slice (a1056) ((([⟨[97], false, []⟩, ⟨[98], true, [116]⟩] : List Seen))).length (c1057))) :: ((124, .agg #[.string (B (([97] : Str))), .bool (false), .string (B (([] : Str)))])) :: ((125, .agg #[.string (B (([98] : Str))), .bool (true), .string (B (([116] : Str)))])) :: ((126, .slice (some ⟨b1059, 0, none⟩) 2 (2))) :: ((127, .bool (sameSeens ((([⟨[97], false, []⟩, ⟨[98], true, [116]⟩] : List Seen))) ([{ name := ([97] : Str), there := false, text := ([] : Str) : Seen }, { name := ([98] : Str), there := true, text := ([116] : Str) : Seen }])))) :: ((128, .bool (true))) :: ((129, .bool (true))) :: ((130, .pointer (some ⟨w60.heap.size, 0, none⟩))) :: ((131, .string (B (fx1.name)))) :: ((132, .bool (true))) :: ((133, .bool (true))) :: ((134, .bool (true))) :: ((135, .bool (true))) :: ((136, .bool (true))) :: ((137, .bool (true))) :: ((138, .bool (false))) :: ((139, .bool (true))) :: ((140, .bool (true))) :: ((141, .bool (true))) :: ((142, .slice (a97) ([fx1, fxs]).length (c98))) :: ((143, .int .i64 (((([fx1, fxs]).length : Nat) : Int)))) :: ((144, .bool (true))) :: ((145, .bool (true))) :: ((146, .bool (true))) :: ((147, .slice (a97) ([fx1, fxs]).length (c98))) :: ((148, .agg #[.string (B (([114] : Str))), .slice (some ⟨b5, 0, none⟩) 2 (2), .slice (some ⟨b11, 0, none⟩) 1 (1)])) :: []) ⟨b0_, b1_, b2_, b3_, b4_, b5_, b6_, b7_, b8_, b9_, b10_, b11_, b12_, b13_, b14_, q0_, q1_, q2_, q3_, q4_, q5_, q6_, q7_, q8_, q9_, q10_, q11_, q12_, q13_, q14_, q15_, q16_, q17_, q18_, q19_, q20_, q21_, q22_, q23_, q24_, q25_, q26_, q27_, q28_, q29_, q30_, q31_, q32_, q33_, q34_, q35_, q36_, q37_, q38_, q39_, q40_, q41_, q42_, q43_, q44_, q45_, q46_, q47_, q48_, q49_, q50_, q51_, q52_, q53_, q54_, q55_, q56_, q57_, q58_, q59_, q60_, q61_, q62_, q63_, q64_, q65_, q66_, q67_, q68_, q69_, q70_, q71_, q72_, q73_, q74_, q75_, q76_, q77_, q78_, q79_, q80_, q81_, q82_, trivial⟩ (fun r_ => ?_)
    refine WL_unguard (yl_eq (d := 146) rfl rfl) ?_
    refine S_callF (vs := [.slice (a97) ([fx1, fxs]).length (c98), .agg #[.string (B (([114] : Str))), .slice (some ⟨b5, 0, none⟩) 2 (2), .slice (some ⟨b11, 0, none⟩) 1 (1)]]) hS1033 Tryd.call14 rfl (by have k_ := (rec_Put ([fx1, fxs]) (a97) (c98) (fx1) (some ⟨b5, 0, none⟩) (2) (some ⟨b11, 0, none⟩) (1) (by first | assumption | omega | decide +kernel) (by first | assumption | omega | decide +kernel) (by first | assumption | omega | decide +kernel) (by first | assumption | omega | decide +kernel)); simp only [fx_put2] at k_; exact k_) (by exact ⟨(hf99.mono hl1036), (hs6.mono (((((((((hl10.trans hl20).trans hl28).trans hl39).trans hl48).trans hl56).trans hl62).trans hl78).trans hl94).trans hl1036)), (hs12.mono ((((((((hl20.trans hl28).trans hl39).trans hl48).trans hl56).trans hl62).trans hl78).trans hl94).trans hl1036))⟩) ?_
    intro h1063 v1065 w1062 hl1064 hp1066 hS1061
    obtain ⟨a1067, c1068, rfl, hf1069⟩ := hp1066
    refine WL_unguard (yl_eq (d := 146) rfl rfl) ?_
    refine WL.val1 (R_len_slice (n := ([fx1, fxs]).length) rfl Tryd.underlying22) ?_
    refine WL_unguard (yl_eq (d := 146) rfl rfl) ?_
    refine WL.val1 (R_cast (R_eql (a := ((([fx1, fxs]).length : Nat) : Int)) (b := 2) rfl rfl) (bool_true (by decide +kernel))) ?_
    refine WL.val1 (R_pick (cb := true) (v := .bool (true)) rfl (fun _ => rfl) (fun h => by cases h)) ?_
    refine WL.val1 (R_assign (v := .bool (true)) rfl) ?_
    refine WL.nil ?_
    refine then_normal ?_
    refine WC.ret ?_
    refine top_ret (.bool (true)) (gives1 rfl rfl) ?_
    exact ⟨(by rfl), (hS1061.pop.pop.pop.weaken_h (((((((((((hl4.trans hl10).trans hl20).trans hl28).trans hl39).trans hl48).trans hl56).trans hl62).trans hl78).trans hl94).trans hl1036).trans hl1064))⟩
end Go.Stet
