/-
  DERIVED. GIVEN WITH THE SEED: THE CARDS: each row of YtfpglljpngiipaaDoorRows.lean that lists a variable, with what it lists TIED to the program's text (the seventh form; the later family's looks); each row that meets fmt, with fmt's text TOLD by the authors' own Lean function (tested against real Go, not proved from fmt's source: count such statements apart). THE CARD IS WHAT COUNTS. Prove the row's statement (the work); the ties are given (YtfpglljpngiipaaDoorTie.lean); close each card by the builder's one call (the guide's Derived/Test/ToyasCard.lean, 'card_holds'). Laid BY PROGRAM, IN A SANDBOX (cutbox-door.mjs). By AI agents, Wed Nov 11 2026. No macro, syntax, notation, axiom, sorry.
-/
import Derived.Test.YtfpglljpngiipaaDoorRows
import GoSem.ClaimSeven
namespace Go.Proofs.YtfpglljpngiipaaDoor
namespace Rows

/-- THE TIED CARD OF 'cattlecreepkeep.TableFinds'. -/
def tableFindsCard : Claim7 := { stood := { row := tableFindsRow, standIns := [], harness := (true, "6811ae25dfba46c8a6fb1ad0aa22dcf5bbc29897965e837970e65385a89238e9"), looks := false }, kinds := [], alts := [], laidByText := true, laidKinds := [.data, .pinned], laidTests := true, laidLooks := .later }
def TableFindsCardSaid : Prop := Claim7.holds Tryd.pinned (.plain (OpenSpec.ofChange tableFindsSpec)) tableFindsCard

/-- THE TIED CARD OF 'cattlecreepkeep.BatchLines'. -/
def batchLinesCard : Claim7 := { stood := { row := batchLinesRow, standIns := [], harness := (true, "6811ae25dfba46c8a6fb1ad0aa22dcf5bbc29897965e837970e65385a89238e9"), looks := false }, kinds := [], alts := [], laidByText := true, laidKinds := [.data, .data, .data, .data, .pinned], laidTests := true, laidLooks := .later }
def BatchLinesCardSaid : Prop := Claim7.holds Tryd.pinned (.plain (OpenSpec.ofChange batchLinesSpec)) batchLinesCard

/-- THE TIED CARD OF 'cattlecreepkeep.ConfFound'. -/
def confFoundCard : Claim7 := { stood := { row := confFoundRow, standIns := [], harness := (true, "6811ae25dfba46c8a6fb1ad0aa22dcf5bbc29897965e837970e65385a89238e9"), looks := false }, kinds := [], alts := [], laidByText := true, laidKinds := [.data, .pinned], laidTests := true, laidLooks := .later }
def ConfFoundCardSaid : Prop := Claim7.holds Tryd.pinned (.plain (OpenSpec.ofChange confFoundSpec)) confFoundCard

/-- THE TIED CARD OF 'cattlecreepkeep.ShowPeers'. -/
def showPeersCard : Claim7 := { stood := { row := showPeersRow, standIns := [], harness := (true, "6811ae25dfba46c8a6fb1ad0aa22dcf5bbc29897965e837970e65385a89238e9"), looks := false }, kinds := [], alts := [], laidByText := true, laidKinds := [.data, .pinned], laidTests := true, laidLooks := .later }
def ShowPeersCardSaid : Prop := Claim7.holds Tryd.pinned (.plain (OpenSpec.ofChange showPeersSpec)) showPeersCard

/-- THE TIED CARD OF 'cattlecreepkeep.DiffNone'. -/
def diffNoneCard : Claim7 := { stood := { row := diffNoneRow, standIns := [], harness := (true, "6811ae25dfba46c8a6fb1ad0aa22dcf5bbc29897965e837970e65385a89238e9"), looks := false }, kinds := [], alts := [], laidByText := true, laidKinds := [.data, .pinned], laidTests := true, laidLooks := .later }
def DiffNoneCardSaid : Prop := Claim7.holds Tryd.pinned (.plain (OpenSpec.ofChange diffNoneSpec)) diffNoneCard

/-- THE SECOND FORM's CARD OF 'cattlecreepkeep.TableFinds'. -/
def tableFindsUptoCard : Claim7 := { stood := { row := tableFindsUptoRow, standIns := [], harness := (true, "6811ae25dfba46c8a6fb1ad0aa22dcf5bbc29897965e837970e65385a89238e9"), looks := false }, kinds := [], alts := [], laidByText := true, laidKinds := [.data, .pinned], laidTests := true, laidLooks := .later }
def TableFindsUptoCardSaid : Prop := Claim7.holds Tryd.pinned (.plain (OpenSpec.upto tableFindsSpec)) tableFindsUptoCard

/-- THE SECOND FORM's CARD OF 'cattlecreepkeep.BatchLines'. -/
def batchLinesUptoCard : Claim7 := { stood := { row := batchLinesUptoRow, standIns := [], harness := (true, "6811ae25dfba46c8a6fb1ad0aa22dcf5bbc29897965e837970e65385a89238e9"), looks := false }, kinds := [], alts := [], laidByText := true, laidKinds := [.data, .data, .data, .data, .pinned], laidTests := true, laidLooks := .later }
def BatchLinesUptoCardSaid : Prop := Claim7.holds Tryd.pinned (.plain (OpenSpec.upto batchLinesSpec)) batchLinesUptoCard

/-- THE SECOND FORM's CARD OF 'cattlecreepkeep.ConfFound'. -/
def confFoundUptoCard : Claim7 := { stood := { row := confFoundUptoRow, standIns := [], harness := (true, "6811ae25dfba46c8a6fb1ad0aa22dcf5bbc29897965e837970e65385a89238e9"), looks := false }, kinds := [], alts := [], laidByText := true, laidKinds := [.data, .pinned], laidTests := true, laidLooks := .later }
def ConfFoundUptoCardSaid : Prop := Claim7.holds Tryd.pinned (.plain (OpenSpec.upto confFoundSpec)) confFoundUptoCard

/-- THE SECOND FORM's CARD OF 'cattlecreepkeep.ShowPeers'. -/
def showPeersUptoCard : Claim7 := { stood := { row := showPeersUptoRow, standIns := [], harness := (true, "6811ae25dfba46c8a6fb1ad0aa22dcf5bbc29897965e837970e65385a89238e9"), looks := false }, kinds := [], alts := [], laidByText := true, laidKinds := [.data, .pinned], laidTests := true, laidLooks := .later }
def ShowPeersUptoCardSaid : Prop := Claim7.holds Tryd.pinned (.plain (OpenSpec.upto showPeersSpec)) showPeersUptoCard

/-- THE SECOND FORM's CARD OF 'cattlecreepkeep.DiffNone'. -/
def diffNoneUptoCard : Claim7 := { stood := { row := diffNoneUptoRow, standIns := [], harness := (true, "6811ae25dfba46c8a6fb1ad0aa22dcf5bbc29897965e837970e65385a89238e9"), looks := false }, kinds := [], alts := [], laidByText := true, laidKinds := [.data, .pinned], laidTests := true, laidLooks := .later }
def DiffNoneUptoCardSaid : Prop := Claim7.holds Tryd.pinned (.plain (OpenSpec.upto diffNoneSpec)) diffNoneUptoCard
end Rows
end Go.Proofs.YtfpglljpngiipaaDoor
