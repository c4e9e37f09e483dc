/-
  DERIVED. GIVEN WITH THE SEED: THE CARDS: each row of YtcebndkiagbddaaDoorRows.lean that lists a variable, with what it lists TIED to the program's text (the seventh form; the later family's looks); each row that meets fmt, with fmt's text TOLD by the authors' own Lean function (tested against real Go, not proved from fmt's source: count such statements apart). THE CARD IS WHAT COUNTS. Prove the row's statement (the work); the ties are given (YtcebndkiagbddaaDoorTie.lean); close each card by the builder's one call (the guide's Derived/Test/ToyasCard.lean, 'card_holds'). Laid BY PROGRAM, IN A SANDBOX (cutbox-door.mjs). By AI agents, Wed Nov 11 2026. No macro, syntax, notation, axiom, sorry.
-/
import Derived.Test.YtcebndkiagbddaaDoorRows
import GoSem.ClaimSeven
namespace Go.Proofs.YtcebndkiagbddaaDoor
namespace Rows

/-- THE TIED CARD OF 'cattlecreepkeep.TableFinds'. -/
def tableFindsCard : Claim7 := { stood := { row := tableFindsRow, standIns := [], harness := (true, "9062dab097941340b4179457db0bdd682fd5de2e21f6b0e4a28ad30b7dbcf538"), looks := false }, kinds := [], alts := [], laidByText := true, laidKinds := [.data, .pinned], laidTests := true, laidLooks := .later }
def TableFindsCardSaid : Prop := Claim7.holds Tryd.pinned (.plain (OpenSpec.ofChange tableFindsSpec)) tableFindsCard

/-- THE TIED CARD OF 'cattlecreepkeep.BatchLines'. -/
def batchLinesCard : Claim7 := { stood := { row := batchLinesRow, standIns := [], harness := (true, "9062dab097941340b4179457db0bdd682fd5de2e21f6b0e4a28ad30b7dbcf538"), looks := false }, kinds := [], alts := [], laidByText := true, laidKinds := [.data, .data, .data, .data, .pinned], laidTests := true, laidLooks := .later }
def BatchLinesCardSaid : Prop := Claim7.holds Tryd.pinned (.plain (OpenSpec.ofChange batchLinesSpec)) batchLinesCard

/-- THE SECOND FORM's CARD OF 'cattlecreepkeep.TableFinds'. -/
def tableFindsUptoCard : Claim7 := { stood := { row := tableFindsUptoRow, standIns := [], harness := (true, "9062dab097941340b4179457db0bdd682fd5de2e21f6b0e4a28ad30b7dbcf538"), looks := false }, kinds := [], alts := [], laidByText := true, laidKinds := [.data, .pinned], laidTests := true, laidLooks := .later }
def TableFindsUptoCardSaid : Prop := Claim7.holds Tryd.pinned (.plain (OpenSpec.upto tableFindsSpec)) tableFindsUptoCard

/-- THE SECOND FORM's CARD OF 'cattlecreepkeep.BatchLines'. -/
def batchLinesUptoCard : Claim7 := { stood := { row := batchLinesUptoRow, standIns := [], harness := (true, "9062dab097941340b4179457db0bdd682fd5de2e21f6b0e4a28ad30b7dbcf538"), looks := false }, kinds := [], alts := [], laidByText := true, laidKinds := [.data, .data, .data, .data, .pinned], laidTests := true, laidLooks := .later }
def BatchLinesUptoCardSaid : Prop := Claim7.holds Tryd.pinned (.plain (OpenSpec.upto batchLinesSpec)) batchLinesUptoCard
end Rows
end Go.Proofs.YtcebndkiagbddaaDoor
