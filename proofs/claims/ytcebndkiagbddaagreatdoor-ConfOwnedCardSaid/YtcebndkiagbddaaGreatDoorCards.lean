/-
  DERIVED. GIVEN WITH THE SEED: THE CARDS: each row of YtcebndkiagbddaaGreatDoorRows.lean that lists a variable, with what it lists TIED to the program's text (the seventh form; the later family's looks); each row that meets fmt, with fmt's text TOLD by the authors' own Lean function (tested against real Go, not proved from fmt's source: count such statements apart). THE CARD IS WHAT COUNTS. Prove the row's statement (the work); the ties are given (YtcebndkiagbddaaGreatDoorTie.lean); close each card by the builder's one call (the guide's Derived/Test/ToyasCard.lean, 'card_holds'). Laid BY PROGRAM, IN A SANDBOX (cutbox-door.mjs). By AI agents, Wed Nov 11 2026. No macro, syntax, notation, axiom, sorry.
-/
import Derived.Test.YtcebndkiagbddaaGreatDoorRows
import GoSem.ClaimSeven
namespace Go.Proofs.YtcebndkiagbddaaGreatDoor
namespace Rows

/-- THE TIED CARD OF 'cattlecreepkeep.ConfOwned'. -/
def confOwnedCard : Claim7 := { stood := { row := confOwnedRow, standIns := [], harness := (true, "304393dc0cffdc476f139ebc5f59f91e4654f2b28d5098997c89b056d7c62b16"), looks := false }, kinds := [], alts := [], laidByText := true, laidKinds := [.data, .data, .data, .data, .pinned], laidTests := true, laidLooks := .later }
def ConfOwnedCardSaid : Prop := Claim7.holds Tryz.pinned (.plain (OpenSpec.ofChange confOwnedSpec)) confOwnedCard

/-- THE TIED CARD OF 'cattlecreepkeep.ApplyOwn'. -/
def applyOwnCard : Claim7 := { stood := { row := applyOwnRow, standIns := [], harness := (true, "304393dc0cffdc476f139ebc5f59f91e4654f2b28d5098997c89b056d7c62b16"), looks := false }, kinds := [], alts := [], laidByText := true, laidKinds := [.data, .pinned], laidTests := true, laidLooks := .later }
def ApplyOwnCardSaid : Prop := Claim7.holds Tryz.pinned (.plain (OpenSpec.ofChange applyOwnSpec)) applyOwnCard

/-- THE TIED CARD OF 'cattlecreepkeep.ApplyGood'. -/
def applyGoodCard : Claim7 := { stood := { row := applyGoodRow, standIns := [], harness := (true, "304393dc0cffdc476f139ebc5f59f91e4654f2b28d5098997c89b056d7c62b16"), looks := false }, kinds := [], alts := [], laidByText := true, laidKinds := [.data, .data, .data, .data, .pinned], laidTests := true, laidLooks := .later }
def ApplyGoodCardSaid : Prop := Claim7.holds Tryz.pinned (.plain (OpenSpec.ofChange applyGoodSpec)) applyGoodCard

/-- THE TIED CARD OF 'cattlecreepkeep.ApplyMoves'. -/
def applyMovesCard : Claim7 := { stood := { row := applyMovesRow, standIns := [], harness := (true, "304393dc0cffdc476f139ebc5f59f91e4654f2b28d5098997c89b056d7c62b16"), looks := false }, kinds := [], alts := [], laidByText := true, laidKinds := [.data, .data, .data, .data, .pinned], laidTests := true, laidLooks := .later }
def ApplyMovesCardSaid : Prop := Claim7.holds Tryz.pinned (.plain (OpenSpec.ofChange applyMovesSpec)) applyMovesCard

/-- THE TIED CARD OF 'cattlecreepkeep.ApplyAll'. -/
def applyAllCard : Claim7 := { stood := { row := applyAllRow, standIns := [], harness := (true, "304393dc0cffdc476f139ebc5f59f91e4654f2b28d5098997c89b056d7c62b16"), looks := false }, kinds := [], alts := [], laidByText := true, laidKinds := [.data, .data, .data, .data, .pinned], laidTests := true, laidLooks := .later }
def ApplyAllCardSaid : Prop := Claim7.holds Tryz.pinned (.plain (OpenSpec.ofChange applyAllSpec)) applyAllCard

/-- THE TIED CARD OF 'cattlecreepkeep.ApplyText'. -/
def applyTextCard : Claim7 := { stood := { row := applyTextRow, standIns := [], harness := (true, "304393dc0cffdc476f139ebc5f59f91e4654f2b28d5098997c89b056d7c62b16"), looks := false }, kinds := [], alts := [], laidByText := true, laidKinds := [.data, .data, .data, .data, .pinned], laidTests := true, laidLooks := .later }
def ApplyTextCardSaid : Prop := Claim7.holds Tryz.pinned (.plain (OpenSpec.ofChange applyTextSpec)) applyTextCard

/-- THE TIED CARD OF 'cattlecreepkeep.ApplyTwice'. -/
def applyTwiceCard : Claim7 := { stood := { row := applyTwiceRow, standIns := [], harness := (true, "304393dc0cffdc476f139ebc5f59f91e4654f2b28d5098997c89b056d7c62b16"), looks := false }, kinds := [], alts := [], laidByText := true, laidKinds := [.data, .data, .data, .data, .pinned], laidTests := true, laidLooks := .later }
def ApplyTwiceCardSaid : Prop := Claim7.holds Tryz.pinned (.plain (OpenSpec.ofChange applyTwiceSpec)) applyTwiceCard

/-- THE TIED CARD OF 'cattlecreepkeep.StageSteps'. -/
def stageStepsCard : Claim7 := { stood := { row := stageStepsRow, standIns := [], harness := (true, "304393dc0cffdc476f139ebc5f59f91e4654f2b28d5098997c89b056d7c62b16"), looks := false }, kinds := [], alts := [], laidByText := true, laidKinds := [.data, .data, .data, .data, .pinned], laidTests := true, laidLooks := .later }
def StageStepsCardSaid : Prop := Claim7.holds Tryz.pinned (.plain (OpenSpec.ofChange stageStepsSpec)) stageStepsCard

/-- THE TIED CARD OF 'cattlecreepkeep.StageAside'. -/
def stageAsideCard : Claim7 := { stood := { row := stageAsideRow, standIns := [], harness := (true, "304393dc0cffdc476f139ebc5f59f91e4654f2b28d5098997c89b056d7c62b16"), looks := false }, kinds := [], alts := [], laidByText := true, laidKinds := [.data, .data, .data, .data, .pinned], laidTests := true, laidLooks := .later }
def StageAsideCardSaid : Prop := Claim7.holds Tryz.pinned (.plain (OpenSpec.ofChange stageAsideSpec)) stageAsideCard

/-- THE TIED CARD OF 'cattlecreepkeep.StageEnds'. -/
def stageEndsCard : Claim7 := { stood := { row := stageEndsRow, standIns := [], harness := (true, "304393dc0cffdc476f139ebc5f59f91e4654f2b28d5098997c89b056d7c62b16"), looks := false }, kinds := [], alts := [], laidByText := true, laidKinds := [.data, .data, .data, .data, .pinned], laidTests := true, laidLooks := .later }
def StageEndsCardSaid : Prop := Claim7.holds Tryz.pinned (.plain (OpenSpec.ofChange stageEndsSpec)) stageEndsCard

/-- THE TIED CARD OF 'cattlecreepkeep.ShowBack'. -/
def showBackCard : Claim7 := { stood := { row := showBackRow, standIns := [], harness := (true, "304393dc0cffdc476f139ebc5f59f91e4654f2b28d5098997c89b056d7c62b16"), looks := false }, kinds := [], alts := [], laidByText := true, laidKinds := [.data, .data, .data, .data, .pinned], laidTests := true, laidLooks := .later }
def ShowBackCardSaid : Prop := Claim7.holds Tryz.pinned (.plain (OpenSpec.ofChange showBackSpec)) showBackCard

/-- THE TIED CARD OF 'cattlecreepkeep.DiffBack'. -/
def diffBackCard : Claim7 := { stood := { row := diffBackRow, standIns := [], harness := (true, "304393dc0cffdc476f139ebc5f59f91e4654f2b28d5098997c89b056d7c62b16"), looks := false }, kinds := [], alts := [], laidByText := true, laidKinds := [.data, .data, .data, .data, .pinned], laidTests := true, laidLooks := .later }
def DiffBackCardSaid : Prop := Claim7.holds Tryz.pinned (.plain (OpenSpec.ofChange diffBackSpec)) diffBackCard

/-- THE TIED CARD OF 'cattlecreepkeep.DaemonCommits'. -/
def daemonCommitsCard : Claim7 := { stood := { row := daemonCommitsRow, standIns := [], harness := (true, "304393dc0cffdc476f139ebc5f59f91e4654f2b28d5098997c89b056d7c62b16"), looks := false }, kinds := [], alts := [], laidByText := true, laidKinds := [.data, .data, .data, .data, .pinned], laidTests := true, laidLooks := .later }
def DaemonCommitsCardSaid : Prop := Claim7.holds Tryz.pinned (.plain (OpenSpec.ofChange daemonCommitsSpec)) daemonCommitsCard

/-- THE SECOND FORM's CARD OF 'cattlecreepkeep.ConfOwned'. -/
def confOwnedUptoCard : Claim7 := { stood := { row := confOwnedUptoRow, standIns := [], harness := (true, "304393dc0cffdc476f139ebc5f59f91e4654f2b28d5098997c89b056d7c62b16"), looks := false }, kinds := [], alts := [], laidByText := true, laidKinds := [.data, .data, .data, .data, .pinned], laidTests := true, laidLooks := .later }
def ConfOwnedUptoCardSaid : Prop := Claim7.holds Tryz.pinned (.plain (OpenSpec.upto confOwnedSpec)) confOwnedUptoCard

/-- THE SECOND FORM's CARD OF 'cattlecreepkeep.ApplyOwn'. -/
def applyOwnUptoCard : Claim7 := { stood := { row := applyOwnUptoRow, standIns := [], harness := (true, "304393dc0cffdc476f139ebc5f59f91e4654f2b28d5098997c89b056d7c62b16"), looks := false }, kinds := [], alts := [], laidByText := true, laidKinds := [.data, .pinned], laidTests := true, laidLooks := .later }
def ApplyOwnUptoCardSaid : Prop := Claim7.holds Tryz.pinned (.plain (OpenSpec.upto applyOwnSpec)) applyOwnUptoCard

/-- THE SECOND FORM's CARD OF 'cattlecreepkeep.ApplyGood'. -/
def applyGoodUptoCard : Claim7 := { stood := { row := applyGoodUptoRow, standIns := [], harness := (true, "304393dc0cffdc476f139ebc5f59f91e4654f2b28d5098997c89b056d7c62b16"), looks := false }, kinds := [], alts := [], laidByText := true, laidKinds := [.data, .data, .data, .data, .pinned], laidTests := true, laidLooks := .later }
def ApplyGoodUptoCardSaid : Prop := Claim7.holds Tryz.pinned (.plain (OpenSpec.upto applyGoodSpec)) applyGoodUptoCard

/-- THE SECOND FORM's CARD OF 'cattlecreepkeep.ApplyMoves'. -/
def applyMovesUptoCard : Claim7 := { stood := { row := applyMovesUptoRow, standIns := [], harness := (true, "304393dc0cffdc476f139ebc5f59f91e4654f2b28d5098997c89b056d7c62b16"), looks := false }, kinds := [], alts := [], laidByText := true, laidKinds := [.data, .data, .data, .data, .pinned], laidTests := true, laidLooks := .later }
def ApplyMovesUptoCardSaid : Prop := Claim7.holds Tryz.pinned (.plain (OpenSpec.upto applyMovesSpec)) applyMovesUptoCard

/-- THE SECOND FORM's CARD OF 'cattlecreepkeep.ApplyAll'. -/
def applyAllUptoCard : Claim7 := { stood := { row := applyAllUptoRow, standIns := [], harness := (true, "304393dc0cffdc476f139ebc5f59f91e4654f2b28d5098997c89b056d7c62b16"), looks := false }, kinds := [], alts := [], laidByText := true, laidKinds := [.data, .data, .data, .data, .pinned], laidTests := true, laidLooks := .later }
def ApplyAllUptoCardSaid : Prop := Claim7.holds Tryz.pinned (.plain (OpenSpec.upto applyAllSpec)) applyAllUptoCard

/-- THE SECOND FORM's CARD OF 'cattlecreepkeep.ApplyText'. -/
def applyTextUptoCard : Claim7 := { stood := { row := applyTextUptoRow, standIns := [], harness := (true, "304393dc0cffdc476f139ebc5f59f91e4654f2b28d5098997c89b056d7c62b16"), looks := false }, kinds := [], alts := [], laidByText := true, laidKinds := [.data, .data, .data, .data, .pinned], laidTests := true, laidLooks := .later }
def ApplyTextUptoCardSaid : Prop := Claim7.holds Tryz.pinned (.plain (OpenSpec.upto applyTextSpec)) applyTextUptoCard

/-- THE SECOND FORM's CARD OF 'cattlecreepkeep.ApplyTwice'. -/
def applyTwiceUptoCard : Claim7 := { stood := { row := applyTwiceUptoRow, standIns := [], harness := (true, "304393dc0cffdc476f139ebc5f59f91e4654f2b28d5098997c89b056d7c62b16"), looks := false }, kinds := [], alts := [], laidByText := true, laidKinds := [.data, .data, .data, .data, .pinned], laidTests := true, laidLooks := .later }
def ApplyTwiceUptoCardSaid : Prop := Claim7.holds Tryz.pinned (.plain (OpenSpec.upto applyTwiceSpec)) applyTwiceUptoCard

/-- THE SECOND FORM's CARD OF 'cattlecreepkeep.StageSteps'. -/
def stageStepsUptoCard : Claim7 := { stood := { row := stageStepsUptoRow, standIns := [], harness := (true, "304393dc0cffdc476f139ebc5f59f91e4654f2b28d5098997c89b056d7c62b16"), looks := false }, kinds := [], alts := [], laidByText := true, laidKinds := [.data, .data, .data, .data, .pinned], laidTests := true, laidLooks := .later }
def StageStepsUptoCardSaid : Prop := Claim7.holds Tryz.pinned (.plain (OpenSpec.upto stageStepsSpec)) stageStepsUptoCard

/-- THE SECOND FORM's CARD OF 'cattlecreepkeep.StageAside'. -/
def stageAsideUptoCard : Claim7 := { stood := { row := stageAsideUptoRow, standIns := [], harness := (true, "304393dc0cffdc476f139ebc5f59f91e4654f2b28d5098997c89b056d7c62b16"), looks := false }, kinds := [], alts := [], laidByText := true, laidKinds := [.data, .data, .data, .data, .pinned], laidTests := true, laidLooks := .later }
def StageAsideUptoCardSaid : Prop := Claim7.holds Tryz.pinned (.plain (OpenSpec.upto stageAsideSpec)) stageAsideUptoCard

/-- THE SECOND FORM's CARD OF 'cattlecreepkeep.StageEnds'. -/
def stageEndsUptoCard : Claim7 := { stood := { row := stageEndsUptoRow, standIns := [], harness := (true, "304393dc0cffdc476f139ebc5f59f91e4654f2b28d5098997c89b056d7c62b16"), looks := false }, kinds := [], alts := [], laidByText := true, laidKinds := [.data, .data, .data, .data, .pinned], laidTests := true, laidLooks := .later }
def StageEndsUptoCardSaid : Prop := Claim7.holds Tryz.pinned (.plain (OpenSpec.upto stageEndsSpec)) stageEndsUptoCard

/-- THE SECOND FORM's CARD OF 'cattlecreepkeep.ShowBack'. -/
def showBackUptoCard : Claim7 := { stood := { row := showBackUptoRow, standIns := [], harness := (true, "304393dc0cffdc476f139ebc5f59f91e4654f2b28d5098997c89b056d7c62b16"), looks := false }, kinds := [], alts := [], laidByText := true, laidKinds := [.data, .data, .data, .data, .pinned], laidTests := true, laidLooks := .later }
def ShowBackUptoCardSaid : Prop := Claim7.holds Tryz.pinned (.plain (OpenSpec.upto showBackSpec)) showBackUptoCard

/-- THE SECOND FORM's CARD OF 'cattlecreepkeep.DiffBack'. -/
def diffBackUptoCard : Claim7 := { stood := { row := diffBackUptoRow, standIns := [], harness := (true, "304393dc0cffdc476f139ebc5f59f91e4654f2b28d5098997c89b056d7c62b16"), looks := false }, kinds := [], alts := [], laidByText := true, laidKinds := [.data, .data, .data, .data, .pinned], laidTests := true, laidLooks := .later }
def DiffBackUptoCardSaid : Prop := Claim7.holds Tryz.pinned (.plain (OpenSpec.upto diffBackSpec)) diffBackUptoCard

/-- THE SECOND FORM's CARD OF 'cattlecreepkeep.DaemonCommits'. -/
def daemonCommitsUptoCard : Claim7 := { stood := { row := daemonCommitsUptoRow, standIns := [], harness := (true, "304393dc0cffdc476f139ebc5f59f91e4654f2b28d5098997c89b056d7c62b16"), looks := false }, kinds := [], alts := [], laidByText := true, laidKinds := [.data, .data, .data, .data, .pinned], laidTests := true, laidLooks := .later }
def DaemonCommitsUptoCardSaid : Prop := Claim7.holds Tryz.pinned (.plain (OpenSpec.upto daemonCommitsSpec)) daemonCommitsUptoCard
end Rows
end Go.Proofs.YtcebndkiagbddaaGreatDoor
