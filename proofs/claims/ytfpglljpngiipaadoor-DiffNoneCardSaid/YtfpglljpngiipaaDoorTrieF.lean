/- Tries of nets, plainly: nets are paths of bits. It names no function of the program. -/
import Derived.Test.YtfpglljpngiipaaDoorMathJoin
namespace Go.Proofs.YtfpglljpngiipaaDoor
set_option linter.unusedVariables false
set_option linter.unusedSimpArgs false

inductive Tr where
  | nil : Tr
  | node : List Bool → List UInt8 → Tr → Tr → Tr
structure Nd where
  p : List Bool
  o : List UInt8
  s : Nat
  deriving Inhabited
namespace Tr
def flat : Tr → List Nd
  | nil => []
  | node p o l r => ⟨p, o, l.flat.length + r.flat.length + 1⟩ :: (l.flat ++ r.flat)
def und (q : List Bool) : Tr → Prop
  | nil => True
  | node p _ _ _ => q <+: p
def wf : Tr → Prop
  | nil => True
  | node p o l r => p.length ≤ 32 ∧ l.und (p ++ [false]) ∧ r.und (p ++ [true]) ∧ (o = [] → l ≠ nil ∧ r ≠ nil) ∧ l.wf ∧ r.wf
/-- A net that is owned. -/
def has : Tr → List Bool → List UInt8 → Prop
  | nil, _, _ => False
  | node p o l r, m, y => (m = p ∧ y = o ∧ o ≠ []) ∨ l.has m y ∨ r.has m y
end Tr
open Tr
abbrev bitAt (q : List Bool) (k : Nat) : Bool := q.getD k false
end Go.Proofs.YtfpglljpngiipaaDoor
