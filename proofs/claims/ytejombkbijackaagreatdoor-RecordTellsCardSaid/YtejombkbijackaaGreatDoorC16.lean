/- Contracts of functions of the program, of the references and of the law: each says what the function returns, in plain Lean, and that it leaves all memory as it was; each under the conditions that its own statement names. -/
import Derived.Test.YtejombkbijackaaGreatDoorSeatZ2
import Derived.Test.YtejombkbijackaaGreatDoorBldZ
import Derived.Test.YtejombkbijackaaGreatDoorEng13
import Derived.Test.YtejombkbijackaaGreatDoorSpec11
import Derived.Test.YtejombkbijackaaGreatDoorC15
set_option linter.all false
set_option linter.unusedSimpArgs false
set_option linter.unusedVariables false
namespace Go.Stet
open Go Go.Eng Go.Proofs
set_option maxHeartbeats 4000000 in
theorem law_RecordTells (l : List Rec) (l_a : Option Addr) (l_c : Nat) (s : Str)  : PureC GG Tryz.prog 3 (fun h => Sl RRec h l l_a l_c) [.slice (l_a) (l).length (l_c), .string (B (s))] (.bool (true)) := by
  intro Γ h L w hpre hS
  have sl_l := hpre
  refine Ret.body Tryz.func3 rfl Tryz.ntmps3 (Nat.le_of_ble_eq_true rfl) ?_
  refine WC.seq ?_
  refine WC.region ?_
  refine WL.val1 (R_assign (v := .bool (false)) rfl) ?_
  refine WL.nil ?_
  refine then_normal ?_
  refine WC.seq ?_
  refine WC.region ?_
  refine WL.val1 (R_move (v := .slice (l_a) (l).length (l_c)) rfl) ?_
  refine S_callF (vs := [.slice (l_a) (l).length (l_c), .int .i64 (6)]) hS Tryz.call4 rfl (law_Cut (l) (l_a) (l_c) (6) (by first | assumption | omega | exact cut_len _ _ | (first | exact cutS_sz _ _ (by omega) | exact decTake_sz (cut_len _ _) | exact decRef_sz (cut_len _ _)) | (have hq_ : SzL _ := (by first | exact cutS_sz _ _ (by omega) | exact decTake_sz (cut_len _ _) | exact decRef_sz (cut_len _ _)); exact hq_.len) | exact (cutS_sz _ _ (by omega)).len | exact (cutS_sz _ _ (by omega)).seens | exact (decTake_sz (cut_len _ _)).len | exact (decTake_sz (cut_len _ _)).seens)) sl_l ?_
  intro h3 v5 w2 hl4 hp6 hS1
  obtain ⟨a7, c8, rfl, hf9⟩ := hp6
  refine WL.val1 (R_assign (v := .slice (a7) ((cutS l 6)).length (c8)) rfl) ?_
  refine WL.nil ?_
  refine then_normal ?_
  refine WC.seq ?_
  refine WC.region ?_
  refine WL.val1 (R_move (v := .string (B (s))) rfl) ?_
  refine WL.val1 (R_move (v := .string (B (s))) rfl) ?_
  refine WL.val1 (R_slen (a := s) rfl Tryz.underlying9) ?_
  refine WL.val1 (R_min (a := (((s).length : Nat) : Int)) (b := 500) rfl rfl) ?_
  refine WL.val1 (R_sslice_h (a := s) (j := (min ((((s).length : Nat) : Int)) (500))) (n := (min ((s).length) (500))) rfl rfl Tryz.underlying9 (by first | rfl | (omega)) (by omega)) ?_
  refine WL.val1 (R_assign (v := .string (B ((s.take (min ((s).length) (500)))))) rfl) ?_
  refine WL.nil ?_
  refine then_normal ?_
  refine WC.seq ?_
  refine WC.region ?_
  refine WL.val1 (R_move (v := .slice (a7) ((cutS l 6)).length (c8)) rfl) ?_
  refine S_callP (vs := [.slice (a7) ((cutS l 6)).length (c8)]) hS1 Tryz.call5 rfl (rec_Encode ((cutS l 6)) (a7) (c8) (by first | assumption | omega | exact cut_len _ _ | (first | exact cutS_sz _ _ (by omega) | exact decTake_sz (cut_len _ _) | exact decRef_sz (cut_len _ _)) | (have hq_ : SzL _ := (by first | exact cutS_sz _ _ (by omega) | exact decTake_sz (cut_len _ _) | exact decRef_sz (cut_len _ _)); exact hq_.len) | exact (cutS_sz _ _ (by omega)).len | exact (cutS_sz _ _ (by omega)).seens | exact (decTake_sz (cut_len _ _)).len | exact (decTake_sz (cut_len _ _)).seens)) hf9 ?_
  intro w11 hS10
  refine WL.val1 (R_move (v := .tuple #[.string (B ((encS ((cutS l 6))).1)), .int .i64 ((encS ((cutS l 6))).2)]) rfl) ?_
  refine WL.val1 (R_extract (vs := [.string (B ((encS ((cutS l 6))).1)), .int .i64 ((encS ((cutS l 6))).2)].toArray) (v := .string (B ((encS ((cutS l 6))).1))) rfl rfl) ?_
  refine WL.val1 (R_extract (vs := [.string (B ((encS ((cutS l 6))).1)), .int .i64 ((encS ((cutS l 6))).2)].toArray) (v := .int .i64 ((encS ((cutS l 6))).2)) rfl rfl) ?_
  refine WL.val1 (R_assign (v := .string (B ((encS ((cutS l 6))).1))) rfl) ?_
  refine WL.val1 (R_assign (v := .int .i64 ((encS ((cutS l 6))).2)) rfl) ?_
  refine WL.nil ?_
  refine then_normal ?_
  refine WC.seq ?_
  refine WC.region ?_
  refine WL.val1 (R_move (v := .slice (a7) ((cutS l 6)).length (c8)) rfl) ?_
  refine S_callF (vs := [.slice (a7) ((cutS l 6)).length (c8)]) hS10 Tryz.call7 rfl (law_Refs ((cutS l 6)) (a7) (c8) (by first | assumption | omega | exact cut_len _ _ | (first | exact cutS_sz _ _ (by omega) | exact decTake_sz (cut_len _ _) | exact decRef_sz (cut_len _ _)) | (have hq_ : SzL _ := (by first | exact cutS_sz _ _ (by omega) | exact decTake_sz (cut_len _ _) | exact decRef_sz (cut_len _ _)); exact hq_.len) | exact (cutS_sz _ _ (by omega)).len | exact (cutS_sz _ _ (by omega)).seens | exact (decTake_sz (cut_len _ _)).len | exact (decTake_sz (cut_len _ _)).seens) (by first | assumption | omega | exact cut_len _ _ | (first | exact cutS_sz _ _ (by omega) | exact decTake_sz (cut_len _ _) | exact decRef_sz (cut_len _ _)) | (have hq_ : SzL _ := (by first | exact cutS_sz _ _ (by omega) | exact decTake_sz (cut_len _ _) | exact decRef_sz (cut_len _ _)); exact hq_.len) | exact (cutS_sz _ _ (by omega)).len | exact (cutS_sz _ _ (by omega)).seens | exact (decTake_sz (cut_len _ _)).len | exact (decTake_sz (cut_len _ _)).seens)) hf9 ?_
  intro h14 v16 w13 hl15 hp17 hS12
  obtain ⟨a18, c19, rfl, hf20⟩ := hp17
  refine S_callP (vs := [.slice (a18) (((cutS l 6))).length (c19)]) hS12 Tryz.call6 rfl (ref20_Encode (((cutS l 6))) (a18) (c19) (by first | assumption | omega | exact cut_len _ _ | (first | exact cutS_sz _ _ (by omega) | exact decTake_sz (cut_len _ _) | exact decRef_sz (cut_len _ _)) | (have hq_ : SzL _ := (by first | exact cutS_sz _ _ (by omega) | exact decTake_sz (cut_len _ _) | exact decRef_sz (cut_len _ _)); exact hq_.len) | exact (cutS_sz _ _ (by omega)).len | exact (cutS_sz _ _ (by omega)).seens | exact (decTake_sz (cut_len _ _)).len | exact (decTake_sz (cut_len _ _)).seens)) hf20 ?_
  intro w22 hS21
  refine WL.val1 (R_move (v := .tuple #[.string (B ((encS (((cutS l 6)))).1)), .int .i64 ((encS (((cutS l 6)))).2)]) rfl) ?_
  refine WL.val1 (R_extract (vs := [.string (B ((encS (((cutS l 6)))).1)), .int .i64 ((encS (((cutS l 6)))).2)].toArray) (v := .string (B ((encS (((cutS l 6)))).1))) rfl rfl) ?_
  refine WL.val1 (R_extract (vs := [.string (B ((encS (((cutS l 6)))).1)), .int .i64 ((encS (((cutS l 6)))).2)].toArray) (v := .int .i64 ((encS (((cutS l 6)))).2)) rfl rfl) ?_
  refine WL.val1 (R_assign (v := .string (B ((encS (((cutS l 6)))).1))) rfl) ?_
  refine WL.val1 (R_assign (v := .int .i64 ((encS (((cutS l 6)))).2)) rfl) ?_
  refine WL.nil ?_
  refine then_normal ?_
  refine WC.seq ?_
  refine WC.region ?_
  refine WL.val1 (R_move (v := .string (B ((s.take (min ((s).length) (500)))))) rfl) ?_
  refine S_callF (vs := [.string (B ((s.take (min ((s).length) (500)))))]) hS21 Tryz.call8 rfl (rec_Decode ((s.take (min ((s).length) (500)))) (by first | assumption | omega | exact cut_len _ _ | (first | exact cutS_sz _ _ (by omega) | exact decTake_sz (cut_len _ _) | exact decRef_sz (cut_len _ _)) | (have hq_ : SzL _ := (by first | exact cutS_sz _ _ (by omega) | exact decTake_sz (cut_len _ _) | exact decRef_sz (cut_len _ _)); exact hq_.len) | exact (cutS_sz _ _ (by omega)).len | exact (cutS_sz _ _ (by omega)).seens | exact (decTake_sz (cut_len _ _)).len | exact (decTake_sz (cut_len _ _)).seens)) trivial ?_
  intro h25 v27 w24 hl26 hp28 hS23
  obtain ⟨a29, c30, rfl, hf31⟩ := hp28
  refine WL.val1 (R_move (v := .tuple #[.slice (a29) ((decTake ((s.take (min ((s).length) (500))))).1).length (c30), .int .i64 ((decTake ((s.take (min ((s).length) (500))))).2)]) rfl) ?_
  refine WL.val1 (R_extract (vs := [.slice (a29) ((decTake ((s.take (min ((s).length) (500))))).1).length (c30), .int .i64 ((decTake ((s.take (min ((s).length) (500))))).2)].toArray) (v := .slice (a29) ((decTake ((s.take (min ((s).length) (500))))).1).length (c30)) rfl rfl) ?_
  refine WL.val1 (R_extract (vs := [.slice (a29) ((decTake ((s.take (min ((s).length) (500))))).1).length (c30), .int .i64 ((decTake ((s.take (min ((s).length) (500))))).2)].toArray) (v := .int .i64 ((decTake ((s.take (min ((s).length) (500))))).2)) rfl rfl) ?_
  refine WL.val1 (R_assign (v := .slice (a29) ((decTake ((s.take (min ((s).length) (500))))).1).length (c30)) rfl) ?_
  refine WL.val1 (R_assign (v := .int .i64 ((decTake ((s.take (min ((s).length) (500))))).2)) rfl) ?_
  refine WL.nil ?_
  refine then_normal ?_
  refine WC.seq ?_
  refine WC.region ?_
  refine WL.val1 (R_move (v := .string (B ((s.take (min ((s).length) (500)))))) rfl) ?_
  refine S_callF (vs := [.string (B ((s.take (min ((s).length) (500)))))]) hS23 Tryz.call9 rfl (ref20_Decode ((s.take (min ((s).length) (500)))) (by first | assumption | omega | exact cut_len _ _ | (first | exact cutS_sz _ _ (by omega) | exact decTake_sz (cut_len _ _) | exact decRef_sz (cut_len _ _)) | (have hq_ : SzL _ := (by first | exact cutS_sz _ _ (by omega) | exact decTake_sz (cut_len _ _) | exact decRef_sz (cut_len _ _)); exact hq_.len) | exact (cutS_sz _ _ (by omega)).len | exact (cutS_sz _ _ (by omega)).seens | exact (decTake_sz (cut_len _ _)).len | exact (decTake_sz (cut_len _ _)).seens)) trivial ?_
  intro h34 v36 w33 hl35 hp37 hS32
  obtain ⟨a38, c39, rfl, hf40⟩ := hp37
  refine WL.val1 (R_move (v := .tuple #[.slice (a38) ((decRef ((s.take (min ((s).length) (500))))).1).length (c39), .int .i64 ((decRef ((s.take (min ((s).length) (500))))).2)]) rfl) ?_
  refine WL.val1 (R_extract (vs := [.slice (a38) ((decRef ((s.take (min ((s).length) (500))))).1).length (c39), .int .i64 ((decRef ((s.take (min ((s).length) (500))))).2)].toArray) (v := .slice (a38) ((decRef ((s.take (min ((s).length) (500))))).1).length (c39)) rfl rfl) ?_
  refine WL.val1 (R_extract (vs := [.slice (a38) ((decRef ((s.take (min ((s).length) (500))))).1).length (c39), .int .i64 ((decRef ((s.take (min ((s).length) (500))))).2)].toArray) (v := .int .i64 ((decRef ((s.take (min ((s).length) (500))))).2)) rfl rfl) ?_
  refine WL.val1 (R_assign (v := .slice (a38) ((decRef ((s.take (min ((s).length) (500))))).1).length (c39)) rfl) ?_
  refine WL.val1 (R_assign (v := .int .i64 ((decRef ((s.take (min ((s).length) (500))))).2)) rfl) ?_
  refine WL.nil ?_
  refine then_normal ?_
  refine WC.seq ?_
  refine WC.region ?_
  refine WL.val1 (R_move (v := .slice (a7) ((cutS l 6)).length (c8)) rfl) ?_
  refine S_callP (vs := [.slice (a7) ((cutS l 6)).length (c8)]) hS32 Tryz.call10 rfl (rec_Right ((cutS l 6)) (a7) (c8) (by first | assumption | omega | exact cut_len _ _ | (first | exact cutS_sz _ _ (by omega) | exact decTake_sz (cut_len _ _) | exact decRef_sz (cut_len _ _)) | (have hq_ : SzL _ := (by first | exact cutS_sz _ _ (by omega) | exact decTake_sz (cut_len _ _) | exact decRef_sz (cut_len _ _)); exact hq_.len) | exact (cutS_sz _ _ (by omega)).len | exact (cutS_sz _ _ (by omega)).seens | exact (decTake_sz (cut_len _ _)).len | exact (decTake_sz (cut_len _ _)).seens)) (hf9.mono ((hl15.trans hl26).trans hl35)) ?_
  intro w42 hS41
  refine WL.val1 (R_move (v := .slice (a7) ((cutS l 6)).length (c8)) rfl) ?_
  refine S_callF (vs := [.slice (a7) ((cutS l 6)).length (c8)]) hS41 Tryz.call7 rfl (law_Refs ((cutS l 6)) (a7) (c8) (by first | assumption | omega | exact cut_len _ _ | (first | exact cutS_sz _ _ (by omega) | exact decTake_sz (cut_len _ _) | exact decRef_sz (cut_len _ _)) | (have hq_ : SzL _ := (by first | exact cutS_sz _ _ (by omega) | exact decTake_sz (cut_len _ _) | exact decRef_sz (cut_len _ _)); exact hq_.len) | exact (cutS_sz _ _ (by omega)).len | exact (cutS_sz _ _ (by omega)).seens | exact (decTake_sz (cut_len _ _)).len | exact (decTake_sz (cut_len _ _)).seens) (by first | assumption | omega | exact cut_len _ _ | (first | exact cutS_sz _ _ (by omega) | exact decTake_sz (cut_len _ _) | exact decRef_sz (cut_len _ _)) | (have hq_ : SzL _ := (by first | exact cutS_sz _ _ (by omega) | exact decTake_sz (cut_len _ _) | exact decRef_sz (cut_len _ _)); exact hq_.len) | exact (cutS_sz _ _ (by omega)).len | exact (cutS_sz _ _ (by omega)).seens | exact (decTake_sz (cut_len _ _)).len | exact (decTake_sz (cut_len _ _)).seens)) (hf9.mono ((hl15.trans hl26).trans hl35)) ?_
  intro h45 v47 w44 hl46 hp48 hS43
  obtain ⟨a49, c50, rfl, hf51⟩ := hp48
  refine S_callP (vs := [.slice (a49) (((cutS l 6))).length (c50)]) hS43 Tryz.call11 rfl (ref20_Right (((cutS l 6))) (a49) (c50) (by first | assumption | omega | exact cut_len _ _ | (first | exact cutS_sz _ _ (by omega) | exact decTake_sz (cut_len _ _) | exact decRef_sz (cut_len _ _)) | (have hq_ : SzL _ := (by first | exact cutS_sz _ _ (by omega) | exact decTake_sz (cut_len _ _) | exact decRef_sz (cut_len _ _)); exact hq_.len) | exact (cutS_sz _ _ (by omega)).len | exact (cutS_sz _ _ (by omega)).seens | exact (decTake_sz (cut_len _ _)).len | exact (decTake_sz (cut_len _ _)).seens)) hf51 ?_
  intro w53 hS52
  refine WL.val1 (R_cast (R_beql (a := rgtS ((cutS l 6))) (b := rgtS (((cutS l 6)))) rfl rfl Tryz.underlying4) (bool_true (by simp))) ?_
  refine WL.val1 (R_move (v := .bool (true)) rfl) ?_
  refine WL_unguard (yl_eq (d := 47) rfl rfl) ?_
  refine WL.val1 (R_move (v := .string (B ((encS ((cutS l 6))).1))) rfl) ?_
  refine WL_unguard (yl_eq (d := 47) rfl rfl) ?_
  refine WL.val1 (R_move (v := .string (B ((encS (((cutS l 6)))).1))) rfl) ?_
  refine WL_unguard (yl_eq (d := 47) rfl rfl) ?_
  refine WL.val1 (R_cast (R_seql (a := (encS ((cutS l 6))).1) (b := (encS (((cutS l 6)))).1) rfl rfl) (bool_true (by simp))) ?_
  refine WL.val1 (R_pick (cb := true) (v := .bool (true)) rfl (fun _ => rfl) (fun h => by cases h)) ?_
  refine WL.val1 (R_move (v := .bool (true)) rfl) ?_
  refine WL_unguard (yl_eq (d := 52) rfl rfl) ?_
  refine WL.val1 (R_move (v := .int .i64 ((encS ((cutS l 6))).2)) rfl) ?_
  refine WL_unguard (yl_eq (d := 52) rfl rfl) ?_
  refine WL.val1 (R_move (v := .int .i64 ((encS (((cutS l 6)))).2)) rfl) ?_
  refine WL_unguard (yl_eq (d := 52) rfl rfl) ?_
  refine WL.val1 (R_cast (R_eql (a := (encS ((cutS l 6))).2) (b := (encS (((cutS l 6)))).2) rfl rfl) (bool_true (by simp))) ?_
  refine WL.val1 (R_pick (cb := true) (v := .bool (true)) rfl (fun _ => rfl) (fun h => by cases h)) ?_
  refine WL.val1 (R_move (v := .bool (true)) rfl) ?_
  refine WL_unguard (yl_eq (d := 57) rfl rfl) ?_
  refine WL.val1 (R_move (v := .slice (a29) ((decTake ((s.take (min ((s).length) (500))))).1).length (c30)) rfl) ?_
  refine WL_unguard (yl_eq (d := 57) rfl rfl) ?_
  refine S_callF (vs := [.slice (a29) ((decTake ((s.take (min ((s).length) (500))))).1).length (c30)]) hS52 Tryz.call7 rfl (law_Refs ((decTake ((s.take (min ((s).length) (500))))).1) (a29) (c30) (by first | assumption | omega | exact cut_len _ _ | (first | exact cutS_sz _ _ (by omega) | exact decTake_sz (cut_len _ _) | exact decRef_sz (cut_len _ _)) | (have hq_ : SzL _ := (by first | exact cutS_sz _ _ (by omega) | exact decTake_sz (cut_len _ _) | exact decRef_sz (cut_len _ _)); exact hq_.len) | exact (cutS_sz _ _ (by omega)).len | exact (cutS_sz _ _ (by omega)).seens | exact (decTake_sz (cut_len _ _)).len | exact (decTake_sz (cut_len _ _)).seens) (by first | assumption | omega | exact cut_len _ _ | (first | exact cutS_sz _ _ (by omega) | exact decTake_sz (cut_len _ _) | exact decRef_sz (cut_len _ _)) | (have hq_ : SzL _ := (by first | exact cutS_sz _ _ (by omega) | exact decTake_sz (cut_len _ _) | exact decRef_sz (cut_len _ _)); exact hq_.len) | exact (cutS_sz _ _ (by omega)).len | exact (cutS_sz _ _ (by omega)).seens | exact (decTake_sz (cut_len _ _)).len | exact (decTake_sz (cut_len _ _)).seens)) (hf31.mono (hl35.trans hl46)) ?_
  intro h56 v58 w55 hl57 hp59 hS54
  obtain ⟨a60, c61, rfl, hf62⟩ := hp59
  refine WL_unguard (yl_eq (d := 57) rfl rfl) ?_
  refine WL.val1 (R_move (v := .slice (a38) ((decRef ((s.take (min ((s).length) (500))))).1).length (c39)) rfl) ?_
  refine WL_unguard (yl_eq (d := 57) rfl rfl) ?_
  refine S_callP (vs := [.slice (a60) (((decTake ((s.take (min ((s).length) (500))))).1)).length (c61), .slice (a38) ((decRef ((s.take (min ((s).length) (500))))).1).length (c39)]) hS54 Tryz.call12 rfl (ref20_Same (((decTake ((s.take (min ((s).length) (500))))).1)) (a60) (c61) ((decRef ((s.take (min ((s).length) (500))))).1) (a38) (c39) (by first | assumption | omega | exact cut_len _ _ | (first | exact cutS_sz _ _ (by omega) | exact decTake_sz (cut_len _ _) | exact decRef_sz (cut_len _ _)) | (have hq_ : SzL _ := (by first | exact cutS_sz _ _ (by omega) | exact decTake_sz (cut_len _ _) | exact decRef_sz (cut_len _ _)); exact hq_.len) | exact (cutS_sz _ _ (by omega)).len | exact (cutS_sz _ _ (by omega)).seens | exact (decTake_sz (cut_len _ _)).len | exact (decTake_sz (cut_len _ _)).seens) (by first | assumption | omega | exact cut_len _ _ | (first | exact cutS_sz _ _ (by omega) | exact decTake_sz (cut_len _ _) | exact decRef_sz (cut_len _ _)) | (have hq_ : SzL _ := (by first | exact cutS_sz _ _ (by omega) | exact decTake_sz (cut_len _ _) | exact decRef_sz (cut_len _ _)); exact hq_.len) | exact (cutS_sz _ _ (by omega)).len | exact (cutS_sz _ _ (by omega)).seens | exact (decTake_sz (cut_len _ _)).len | exact (decTake_sz (cut_len _ _)).seens)) ⟨hf62, (hf40.mono (hl46.trans hl57))⟩ ?_
  intro w64 hS63
  refine WL.val1 (R_cast (R_pick (cb := true) (v := .bool (sameS (((decTake ((s.take (min ((s).length) (500))))).1)) ((decRef ((s.take (min ((s).length) (500))))).1))) rfl (fun _ => rfl) (fun h => by cases h)) (bool_true (by rw [dec_same _ (by have := cut_len s s.length; omega)]; exact sameS_refl _))) ?_
  refine WL.val1 (R_move (v := .bool (true)) rfl) ?_
  refine WL_unguard (yl_eq (d := 63) rfl rfl) ?_
  refine WL.val1 (R_move (v := .int .i64 ((decTake ((s.take (min ((s).length) (500))))).2)) rfl) ?_
  refine WL_unguard (yl_eq (d := 63) rfl rfl) ?_
  refine WL.val1 (R_move (v := .int .i64 ((decRef ((s.take (min ((s).length) (500))))).2)) rfl) ?_
  refine WL_unguard (yl_eq (d := 63) rfl rfl) ?_
  refine WL.val1 (R_cast (R_eql (a := (decTake ((s.take (min ((s).length) (500))))).2) (b := (decRef ((s.take (min ((s).length) (500))))).2) rfl rfl) (bool_true (by rw [dec_same _ (by have := cut_len s s.length; omega)]; simp))) ?_
  refine WL.val1 (R_pick (cb := true) (v := .bool (true)) rfl (fun _ => rfl) (fun h => by cases h)) ?_
  refine WL.val1 (R_move (v := .bool (true)) rfl) ?_
  refine WL_unguard (yl_eq (d := 68) rfl rfl) ?_
  refine S_callP (vs := []) hS63 Tryz.call13 rfl law_fixed trivial ?_
  intro w66 hS65
  refine WL.val1 (R_pick (cb := true) (v := .bool (true)) rfl (fun _ => rfl) (fun h => by cases h)) ?_
  refine WL.val1 (R_assign (v := .bool (true)) rfl) ?_
  refine WL.nil ?_
  refine then_normal ?_
  refine WC.ret ?_
  refine top_ret (.bool (true)) (gives1 rfl rfl) ?_
  exact ⟨(by rfl), (hS65.weaken_h (((((hl4.trans hl15).trans hl26).trans hl35).trans hl46).trans hl57))⟩
end Go.Stet
