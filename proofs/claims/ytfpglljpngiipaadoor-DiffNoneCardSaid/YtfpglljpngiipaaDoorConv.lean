/- From contracts over worlds (Calls, Below) to contracts over values. It names no function of the program. -/
import Derived.Test.YtfpglljpngiipaaDoorFD
import Derived.Test.YtfpglljpngiipaaDoorBytes
namespace Go.Proofs.YtfpglljpngiipaaDoor
open Go.RowKit
set_option linter.unusedVariables false
set_option linter.unusedSimpArgs false

section
variable {E : Env} {φ : Ghost} {Pub : Nat → Nat → Prop} {w w' : World}
theorem adv_below (hp : ∀ b i, Pub b i → b < w.heap.size) (hb : Below w.heap.size w w') : Adv w Pub w' Pub := fun b i h => by
  refine ⟨h, ?_⟩
  simp only [World.cell?, hb.block b (hp b i h)]
theorem Inv.below (I : Inv E [] φ Pub [] w) (e : E.w0 = w) (hb : Below w.heap.size w w') : Inv E [] φ Pub [] w' :=
  I.next hb.os hb.tape hb.output hb.size (fun b h _ => hb.block b (by rw [e] at h; exact h)) (adv_below I.publ hb) (fun _ _ h => .inl h) (fun b i h => Nat.lt_of_lt_of_le (I.publ b i h) hb.size)
    (fun r h => Bool.noConfusion (show false = true from h)) (fun r _ _ h => Bool.noConfusion (show false = true from h)) (fun r _ _ _ _ h => Bool.noConfusion (show false = true from h)) (fun _ h => by cases h)
end
/-- A function that returns a value without addresses. -/
theorem Cf.of {P : Program} {f : FuncId} {ags : List EV} {u : Value} (hc : callable P f = true)
    (h : ∀ (w : World) (Pub : Nat → Nat → Prop) (φ : Ghost) (vs : List Value), (∀ b i, Pub b i → b < w.heap.size) → RAs w Pub φ (avL ags) vs → Calls P f vs.toArray w fun e w' => e = .returned u ∧ Below w.heap.size w w') : Cf P f [] ags [] (.v u) := by
  refine ⟨hc, fun E φ Pub w vs e1 e2 I hR => (h w Pub φ vs I.publ hR).mono ?_⟩
  rintro e w' ⟨rfl, hb⟩
  exact ⟨u, φ, Pub, rfl, I.below e1 hb, by unfold EV.av RA RP; rfl⟩
end Go.Proofs.YtfpglljpngiipaaDoor
