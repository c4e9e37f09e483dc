/- From contracts to statements: how the arguments that come in are read as values without addresses. -/
import Derived.Test.YtfpglljpngiipaaDoorRows
import Derived.Test.YtfpglljpngiipaaDoorFD
import Derived.Test.YtfpglljpngiipaaDoorPickF
import Derived.WalkKit
import Derived.ProofKit
import Derived.OpenShut
import Derived.ShutString
import Derived.ChangeOld
import Derived.Below
import Derived.Lib.SmallJoins
import Derived.Test.YtfpglljpngiipaaDoorProg
namespace Go.Proofs.YtfpglljpngiipaaDoor
open Go.ChangeShapes Go.WideShapes Go.ChangeAt Go.RowKit
open Go.ChangeMaps (open_string shut_string)
set_option linter.unusedVariables false
set_option linter.unusedSimpArgs false

theorem own : ownKnob Tryd.prog.godebug = none := by kernel_rfl
theorem laidOut : laidOutB Tryd.prog = true := by kernel_rfl
/-- All that was there is shared. -/
abbrev PubW (W : World) : Nat → Nat → Prop := fun b _ => b < W.heap.size
abbrev noG : Ghost := fun _ => none
theorem law_calls {P : Program} {f : FuncId} {ags : List EV} (h : Cf P f [] ags [] (.b true)) {W : World} {vs : List Value} (hA : Amb W (PubW W)) (hR : RAs W (PubW W) noG (avL ags) vs) :
    Calls P f vs.toArray W fun e w' => e = .returned (.bool true) ∧ Below W.heap.size W w' := by
  let E : Env := ⟨W, fun _ => False, PubW W, noG, hA, fun _ _ h => h⟩
  have I : Inv E ((obs []).map (·.1)) noG (PubW W) (obs []) W := by
    exact { os := rfl, tape := rfl, output := rfl, size := Nat.le_refl _, block := fun _ _ _ => rfl,
            own := fun r => by show Hp W (PubW W) noG r .dead; unfold Hp; trivial,
            mine := fun r b c h _ => (Bool.noConfusion (show false = true from h)),
            inj := fun r r' b c c' h _ _ _ => (Bool.noConfusion (show false = true from h)),
            pub0 := fun _ _ h => h, pubs := fun _ _ h => Or.inl h, publ := fun _ _ h => h, same := fun _ _ _ => rfl, kept := fun _ _ => rfl }
  refine (h.2 E noG (PubW W) W vs rfl rfl I hR).mono ?_
  rintro e w' ⟨v, φ', Pub', rfl, J, hv⟩
  have hv' : v = .bool true := by unfold EV.av RA RP at hv; exact hv
  subst hv'
  exact ⟨rfl, J.os, J.tape, J.output, J.size, fun k hk => J.block k hk (fun h => h)⟩
section
variable {w : World} {Pub : Nat → Nat → Prop} {φ : Ghost}
theorem ra_nil : RAs w Pub φ (avL []) [] := by unfold avL RAs; rfl
theorem ra_cons {x : EV} {u : Value} {xs : List EV} {us : List Value} (h : RA w Pub φ x.av u) (k : RAs w Pub φ (avL xs) us) : RAs w Pub φ (avL (x :: xs)) (u :: us) := by
  unfold avL RAs; exact ⟨u, us, rfl, h, k⟩
end
theorem wf_i64 {n : Int} (h : (Lit.int .i64 n).wf = true) : IntIn n := by
  have h1 : IntKind.i64.min = -9223372036854775808 := rfl
  have h2 : IntKind.i64.max = 9223372036854775807 := rfl
  simp only [Lit.wf, Bool.and_eq_true, decide_eq_true_eq] at h
  omega
abbrev RawIn (k a b : Int) (s : List UInt8) : Prop := IntIn k ∧ IntIn a ∧ IntIn b ∧ s.length ≤ maxLen

end Go.Proofs.YtfpglljpngiipaaDoor
