/- TrieLeaves: the walk of the statement's function. -/
import Derived.Test.YtcdoobkaobiacaaCTrieD
import Derived.Test.YtcdoobkaobiacaaClTrieS
namespace Go.Proofs.Ytcdoobkaobiacaa
open Go.RowKit Tr
set_option linter.unusedVariables false
set_option linter.unusedSimpArgs false

theorem lvT_put {L : List Nd} {w : List UInt8} {i : Nat} (h : (!decide ((nAt L i).o = []) && !decide ((nAt L i).o = w)) = true) : lvT L w (i + 1) = putT (lvT L w i) (nAt L i).p (nAt L i).o := by
  rw [lvT, h]; rfl
theorem lvT_skip {L : List Nd} {w : List UInt8} {i : Nat} (h : (!decide ((nAt L i).o = []) && !decide ((nAt L i).o = w)) = false) : lvT L w (i + 1) = lvT L w i := by
  rw [lvT, h]; rfl
theorem mpL_len (l : List RawS) : ∀ i, (mpL l i).length ≤ i
  | 0 => Nat.le_refl _
  | i + 1 => by have := mpL_len l i; show (mpPut _ _ _).length ≤ _; rw [mpPut_len]; split <;> omega
end Go.Proofs.Ytcdoobkaobiacaa
