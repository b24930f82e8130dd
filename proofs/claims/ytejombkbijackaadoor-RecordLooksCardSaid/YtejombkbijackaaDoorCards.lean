/-
  DERIVED. GIVEN WITH THE SEED: THE CARDS: each row of YtejombkbijackaaDoorRows.lean that lists a variable, with what it lists TIED to the program's text (the seventh form; the later family's looks); each row that meets fmt, with fmt's text TOLD by the authors' own Lean function (tested against real Go, not proved from fmt's source: count such statements apart). THE CARD IS WHAT COUNTS. Prove the row's statement (the work); the ties are given (YtejombkbijackaaDoorTie.lean); close each card by the builder's one call (the guide's Derived/Test/ToyasCard.lean, 'card_holds'). Laid BY PROGRAM, IN A SANDBOX (cutbox-door.mjs). By AI agents, Wed Nov 11 2026. No macro, syntax, notation, axiom, sorry.
-/
import Derived.Test.YtejombkbijackaaDoorRows
import GoSem.ClaimSeven
namespace Go.Proofs.YtejombkbijackaaDoor
namespace Rows

/-- THE TIED CARD OF 'stetlaw20.RecordLooks'. -/
def recordLooksCard : Claim7 := { stood := { row := recordLooksRow, standIns := [], harness := (true, "dd2f1fcdb3be82eb7cc0106f74f207208385c7d966ef050f299f6ae8df2a3923"), looks := true }, kinds := [], alts := [], laidByText := true, laidKinds := [.data, .data, .data, .handle], laidTests := true, laidLooks := .later }
def RecordLooksCardSaid : Prop := Claim7.holds Tryd.pinned (.plain (OpenSpec.ofChange recordLooksSpec)) recordLooksCard

/-- THE SECOND FORM's CARD OF 'stetlaw20.RecordLooks'. -/
def recordLooksUptoCard : Claim7 := { stood := { row := recordLooksUptoRow, standIns := [], harness := (true, "dd2f1fcdb3be82eb7cc0106f74f207208385c7d966ef050f299f6ae8df2a3923"), looks := true }, kinds := [], alts := [], laidByText := true, laidKinds := [.data, .data, .data, .handle], laidTests := true, laidLooks := .later }
def RecordLooksUptoCardSaid : Prop := Claim7.holds Tryd.pinned (.plain (OpenSpec.upto recordLooksSpec)) recordLooksUptoCard
end Rows
end Go.Proofs.YtejombkbijackaaDoor
