/-
  DERIVED. GIVEN WITH THE SEED: THE CARDS: each row of YtcdoobkaobiacaaDoorRows.lean that lists a variable, with what it lists TIED to the program's text (the seventh form; the later family's looks); each row that meets fmt, with fmt's text TOLD by the authors' own Lean function (tested against real Go, not proved from fmt's source: count such statements apart). THE CARD IS WHAT COUNTS. Prove the row's statement (the work); the ties are given (YtcdoobkaobiacaaDoorTie.lean); close each card by the builder's one call (the guide's Derived/Test/ToyasCard.lean, 'card_holds'). Laid BY PROGRAM, IN A SANDBOX (cutbox-door.mjs). By AI agents, Wed Nov 11 2026. No macro, syntax, notation, axiom, sorry.
-/
import Derived.Test.YtcdoobkaobiacaaDoorRows
import GoSem.ClaimSeven
namespace Go.Proofs.YtcdoobkaobiacaaDoor
namespace Rows

/-- THE TIED CARD OF 'cattlecreepkeep.TableFinds'. -/
def tableFindsCard : Claim7 := { stood := { row := tableFindsRow, standIns := [], harness := (true, "513eca92bb8aba19544aeceefe234eba4a15ca82ededc83577b1558df607d75f"), looks := false }, kinds := [], alts := [], laidByText := true, laidKinds := [.data, .pinned], laidTests := true, laidLooks := .later }
def TableFindsCardSaid : Prop := Claim7.holds Tryd.pinned (.plain (OpenSpec.ofChange tableFindsSpec)) tableFindsCard

/-- THE TIED CARD OF 'cattlecreepkeep.LineTurns'. -/
def lineTurnsCard : Claim7 := { stood := { row := lineTurnsRow, standIns := [], harness := (true, "513eca92bb8aba19544aeceefe234eba4a15ca82ededc83577b1558df607d75f"), looks := false }, kinds := [], alts := [], laidByText := true, laidKinds := [.data, .pinned], laidTests := true, laidLooks := .later }
def LineTurnsCardSaid : Prop := Claim7.holds Tryd.pinned (.plain (OpenSpec.ofChange lineTurnsSpec)) lineTurnsCard

/-- THE TIED CARD OF 'cattlecreepkeep.LineBack'. -/
def lineBackCard : Claim7 := { stood := { row := lineBackRow, standIns := [], harness := (true, "513eca92bb8aba19544aeceefe234eba4a15ca82ededc83577b1558df607d75f"), looks := false }, kinds := [], alts := [], laidByText := true, laidKinds := [.data, .pinned], laidTests := true, laidLooks := .later }
def LineBackCardSaid : Prop := Claim7.holds Tryd.pinned (.plain (OpenSpec.ofChange lineBackSpec)) lineBackCard

/-- THE TIED CARD OF 'cattlecreepkeep.AddrTurns'. -/
def addrTurnsCard : Claim7 := { stood := { row := addrTurnsRow, standIns := [], harness := (true, "513eca92bb8aba19544aeceefe234eba4a15ca82ededc83577b1558df607d75f"), looks := false }, kinds := [], alts := [], laidByText := true, laidKinds := [.data, .data, .data, .data, .pinned], laidTests := true, laidLooks := .later }
def AddrTurnsCardSaid : Prop := Claim7.holds Tryd.pinned (.plain (OpenSpec.ofChange addrTurnsSpec)) addrTurnsCard

/-- THE TIED CARD OF 'cattlecreepkeep.AddrBack'. -/
def addrBackCard : Claim7 := { stood := { row := addrBackRow, standIns := [], harness := (true, "513eca92bb8aba19544aeceefe234eba4a15ca82ededc83577b1558df607d75f"), looks := false }, kinds := [], alts := [], laidByText := true, laidKinds := [.data, .data, .data, .data, .pinned], laidTests := true, laidLooks := .later }
def AddrBackCardSaid : Prop := Claim7.holds Tryd.pinned (.plain (OpenSpec.ofChange addrBackSpec)) addrBackCard

/-- THE TIED CARD OF 'cattlecreepkeep.NetBack'. -/
def netBackCard : Claim7 := { stood := { row := netBackRow, standIns := [], harness := (true, "513eca92bb8aba19544aeceefe234eba4a15ca82ededc83577b1558df607d75f"), looks := false }, kinds := [], alts := [], laidByText := true, laidKinds := [.data, .data, .data, .data, .pinned], laidTests := true, laidLooks := .later }
def NetBackCardSaid : Prop := Claim7.holds Tryd.pinned (.plain (OpenSpec.ofChange netBackSpec)) netBackCard

/-- THE TIED CARD OF 'cattlecreepkeep.BatchTurns'. -/
def batchTurnsCard : Claim7 := { stood := { row := batchTurnsRow, standIns := [], harness := (true, "513eca92bb8aba19544aeceefe234eba4a15ca82ededc83577b1558df607d75f"), looks := false }, kinds := [], alts := [], laidByText := true, laidKinds := [.data, .data, .data, .data, .pinned], laidTests := true, laidLooks := .later }
def BatchTurnsCardSaid : Prop := Claim7.holds Tryd.pinned (.plain (OpenSpec.ofChange batchTurnsSpec)) batchTurnsCard

/-- THE TIED CARD OF 'cattlecreepkeep.BatchBack'. -/
def batchBackCard : Claim7 := { stood := { row := batchBackRow, standIns := [], harness := (true, "513eca92bb8aba19544aeceefe234eba4a15ca82ededc83577b1558df607d75f"), looks := false }, kinds := [], alts := [], laidByText := true, laidKinds := [.data, .data, .data, .data, .pinned], laidTests := true, laidLooks := .later }
def BatchBackCardSaid : Prop := Claim7.holds Tryd.pinned (.plain (OpenSpec.ofChange batchBackSpec)) batchBackCard

/-- THE TIED CARD OF 'cattlecreepkeep.BatchLines'. -/
def batchLinesCard : Claim7 := { stood := { row := batchLinesRow, standIns := [], harness := (true, "513eca92bb8aba19544aeceefe234eba4a15ca82ededc83577b1558df607d75f"), looks := false }, kinds := [], alts := [], laidByText := true, laidKinds := [.data, .data, .data, .data, .pinned], laidTests := true, laidLooks := .later }
def BatchLinesCardSaid : Prop := Claim7.holds Tryd.pinned (.plain (OpenSpec.ofChange batchLinesSpec)) batchLinesCard

/-- THE TIED CARD OF 'cattlecreepkeep.ConfFound'. -/
def confFoundCard : Claim7 := { stood := { row := confFoundRow, standIns := [], harness := (true, "513eca92bb8aba19544aeceefe234eba4a15ca82ededc83577b1558df607d75f"), looks := false }, kinds := [], alts := [], laidByText := true, laidKinds := [.data, .pinned], laidTests := true, laidLooks := .later }
def ConfFoundCardSaid : Prop := Claim7.holds Tryd.pinned (.plain (OpenSpec.ofChange confFoundSpec)) confFoundCard

/-- THE TIED CARD OF 'cattlecreepkeep.ShowPeers'. -/
def showPeersCard : Claim7 := { stood := { row := showPeersRow, standIns := [], harness := (true, "513eca92bb8aba19544aeceefe234eba4a15ca82ededc83577b1558df607d75f"), looks := false }, kinds := [], alts := [], laidByText := true, laidKinds := [.data, .pinned], laidTests := true, laidLooks := .later }
def ShowPeersCardSaid : Prop := Claim7.holds Tryd.pinned (.plain (OpenSpec.ofChange showPeersSpec)) showPeersCard

/-- THE TIED CARD OF 'cattlecreepkeep.DiffNone'. -/
def diffNoneCard : Claim7 := { stood := { row := diffNoneRow, standIns := [], harness := (true, "513eca92bb8aba19544aeceefe234eba4a15ca82ededc83577b1558df607d75f"), looks := false }, kinds := [], alts := [], laidByText := true, laidKinds := [.data, .pinned], laidTests := true, laidLooks := .later }
def DiffNoneCardSaid : Prop := Claim7.holds Tryd.pinned (.plain (OpenSpec.ofChange diffNoneSpec)) diffNoneCard

/-- THE SECOND FORM's CARD OF 'cattlecreepkeep.TableFinds'. -/
def tableFindsUptoCard : Claim7 := { stood := { row := tableFindsUptoRow, standIns := [], harness := (true, "513eca92bb8aba19544aeceefe234eba4a15ca82ededc83577b1558df607d75f"), looks := false }, kinds := [], alts := [], laidByText := true, laidKinds := [.data, .pinned], laidTests := true, laidLooks := .later }
def TableFindsUptoCardSaid : Prop := Claim7.holds Tryd.pinned (.plain (OpenSpec.upto tableFindsSpec)) tableFindsUptoCard

/-- THE SECOND FORM's CARD OF 'cattlecreepkeep.LineTurns'. -/
def lineTurnsUptoCard : Claim7 := { stood := { row := lineTurnsUptoRow, standIns := [], harness := (true, "513eca92bb8aba19544aeceefe234eba4a15ca82ededc83577b1558df607d75f"), looks := false }, kinds := [], alts := [], laidByText := true, laidKinds := [.data, .pinned], laidTests := true, laidLooks := .later }
def LineTurnsUptoCardSaid : Prop := Claim7.holds Tryd.pinned (.plain (OpenSpec.upto lineTurnsSpec)) lineTurnsUptoCard

/-- THE SECOND FORM's CARD OF 'cattlecreepkeep.LineBack'. -/
def lineBackUptoCard : Claim7 := { stood := { row := lineBackUptoRow, standIns := [], harness := (true, "513eca92bb8aba19544aeceefe234eba4a15ca82ededc83577b1558df607d75f"), looks := false }, kinds := [], alts := [], laidByText := true, laidKinds := [.data, .pinned], laidTests := true, laidLooks := .later }
def LineBackUptoCardSaid : Prop := Claim7.holds Tryd.pinned (.plain (OpenSpec.upto lineBackSpec)) lineBackUptoCard

/-- THE SECOND FORM's CARD OF 'cattlecreepkeep.AddrTurns'. -/
def addrTurnsUptoCard : Claim7 := { stood := { row := addrTurnsUptoRow, standIns := [], harness := (true, "513eca92bb8aba19544aeceefe234eba4a15ca82ededc83577b1558df607d75f"), looks := false }, kinds := [], alts := [], laidByText := true, laidKinds := [.data, .data, .data, .data, .pinned], laidTests := true, laidLooks := .later }
def AddrTurnsUptoCardSaid : Prop := Claim7.holds Tryd.pinned (.plain (OpenSpec.upto addrTurnsSpec)) addrTurnsUptoCard

/-- THE SECOND FORM's CARD OF 'cattlecreepkeep.AddrBack'. -/
def addrBackUptoCard : Claim7 := { stood := { row := addrBackUptoRow, standIns := [], harness := (true, "513eca92bb8aba19544aeceefe234eba4a15ca82ededc83577b1558df607d75f"), looks := false }, kinds := [], alts := [], laidByText := true, laidKinds := [.data, .data, .data, .data, .pinned], laidTests := true, laidLooks := .later }
def AddrBackUptoCardSaid : Prop := Claim7.holds Tryd.pinned (.plain (OpenSpec.upto addrBackSpec)) addrBackUptoCard

/-- THE SECOND FORM's CARD OF 'cattlecreepkeep.NetBack'. -/
def netBackUptoCard : Claim7 := { stood := { row := netBackUptoRow, standIns := [], harness := (true, "513eca92bb8aba19544aeceefe234eba4a15ca82ededc83577b1558df607d75f"), looks := false }, kinds := [], alts := [], laidByText := true, laidKinds := [.data, .data, .data, .data, .pinned], laidTests := true, laidLooks := .later }
def NetBackUptoCardSaid : Prop := Claim7.holds Tryd.pinned (.plain (OpenSpec.upto netBackSpec)) netBackUptoCard

/-- THE SECOND FORM's CARD OF 'cattlecreepkeep.BatchTurns'. -/
def batchTurnsUptoCard : Claim7 := { stood := { row := batchTurnsUptoRow, standIns := [], harness := (true, "513eca92bb8aba19544aeceefe234eba4a15ca82ededc83577b1558df607d75f"), looks := false }, kinds := [], alts := [], laidByText := true, laidKinds := [.data, .data, .data, .data, .pinned], laidTests := true, laidLooks := .later }
def BatchTurnsUptoCardSaid : Prop := Claim7.holds Tryd.pinned (.plain (OpenSpec.upto batchTurnsSpec)) batchTurnsUptoCard

/-- THE SECOND FORM's CARD OF 'cattlecreepkeep.BatchBack'. -/
def batchBackUptoCard : Claim7 := { stood := { row := batchBackUptoRow, standIns := [], harness := (true, "513eca92bb8aba19544aeceefe234eba4a15ca82ededc83577b1558df607d75f"), looks := false }, kinds := [], alts := [], laidByText := true, laidKinds := [.data, .data, .data, .data, .pinned], laidTests := true, laidLooks := .later }
def BatchBackUptoCardSaid : Prop := Claim7.holds Tryd.pinned (.plain (OpenSpec.upto batchBackSpec)) batchBackUptoCard

/-- THE SECOND FORM's CARD OF 'cattlecreepkeep.BatchLines'. -/
def batchLinesUptoCard : Claim7 := { stood := { row := batchLinesUptoRow, standIns := [], harness := (true, "513eca92bb8aba19544aeceefe234eba4a15ca82ededc83577b1558df607d75f"), looks := false }, kinds := [], alts := [], laidByText := true, laidKinds := [.data, .data, .data, .data, .pinned], laidTests := true, laidLooks := .later }
def BatchLinesUptoCardSaid : Prop := Claim7.holds Tryd.pinned (.plain (OpenSpec.upto batchLinesSpec)) batchLinesUptoCard

/-- THE SECOND FORM's CARD OF 'cattlecreepkeep.ConfFound'. -/
def confFoundUptoCard : Claim7 := { stood := { row := confFoundUptoRow, standIns := [], harness := (true, "513eca92bb8aba19544aeceefe234eba4a15ca82ededc83577b1558df607d75f"), looks := false }, kinds := [], alts := [], laidByText := true, laidKinds := [.data, .pinned], laidTests := true, laidLooks := .later }
def ConfFoundUptoCardSaid : Prop := Claim7.holds Tryd.pinned (.plain (OpenSpec.upto confFoundSpec)) confFoundUptoCard

/-- THE SECOND FORM's CARD OF 'cattlecreepkeep.ShowPeers'. -/
def showPeersUptoCard : Claim7 := { stood := { row := showPeersUptoRow, standIns := [], harness := (true, "513eca92bb8aba19544aeceefe234eba4a15ca82ededc83577b1558df607d75f"), looks := false }, kinds := [], alts := [], laidByText := true, laidKinds := [.data, .pinned], laidTests := true, laidLooks := .later }
def ShowPeersUptoCardSaid : Prop := Claim7.holds Tryd.pinned (.plain (OpenSpec.upto showPeersSpec)) showPeersUptoCard

/-- THE SECOND FORM's CARD OF 'cattlecreepkeep.DiffNone'. -/
def diffNoneUptoCard : Claim7 := { stood := { row := diffNoneUptoRow, standIns := [], harness := (true, "513eca92bb8aba19544aeceefe234eba4a15ca82ededc83577b1558df607d75f"), looks := false }, kinds := [], alts := [], laidByText := true, laidKinds := [.data, .pinned], laidTests := true, laidLooks := .later }
def DiffNoneUptoCardSaid : Prop := Claim7.holds Tryd.pinned (.plain (OpenSpec.upto diffNoneSpec)) diffNoneUptoCard
end Rows
end Go.Proofs.YtcdoobkaobiacaaDoor
