/- TableTurns: the walk of the statement's function. -/
import Derived.Test.YtcebndkiagbddaaDoorCTable
namespace Go.Proofs.YtcebndkiagbddaaDoor
open Go.RowKit
set_option linter.unusedVariables false
set_option linter.unusedSimpArgs false

theorem z_ck : KS.z.ck = 0 := (KS.ck_0 (k := KS.z) rfl ⟨rfl, rfl, rfl, rfl, rfl, rfl, rfl, rfl, rfl, rfl, rfl⟩).symm
end Go.Proofs.YtcebndkiagbddaaDoor
