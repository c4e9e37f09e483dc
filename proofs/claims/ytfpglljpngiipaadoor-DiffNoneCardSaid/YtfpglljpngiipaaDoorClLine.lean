/- LineTurns, LineBack: the walks of the statements' functions. -/
import Derived.Test.YtfpglljpngiipaaDoorCLine
import Derived.Test.YtfpglljpngiipaaDoorCKey
namespace Go.Proofs.YtfpglljpngiipaaDoor
open Go.RowKit
set_option linter.unusedVariables false
set_option linter.unusedSimpArgs false

abbrev rA (l : List RawS) (i : Nat) : RawS := l.getD i default
theorem rA_in {l : List RawS} (hl : ∀ x ∈ l, x.inn) {i : Nat} (hi : i < l.length) : (rA l i).inn := by
  have e : rA l i = l[i] := by show l.getD i default = l[i]; rw [List.getD_eq_getElem?_getD, List.getElem?_eq_getElem hi]; rfl
  rw [e]; exact hl _ (List.getElem_mem hi)
end Go.Proofs.YtfpglljpngiipaaDoor
