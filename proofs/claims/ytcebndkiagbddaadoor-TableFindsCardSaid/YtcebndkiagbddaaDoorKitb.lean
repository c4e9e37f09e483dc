/- More small general lemmas for the walks; they name no function of the program. -/
import Derived.Test.YtcebndkiagbddaaDoorFB
namespace Go.Proofs.YtcebndkiagbddaaDoor
open Go.RowKit
set_option linter.unusedVariables false
set_option linter.unusedSimpArgs false

/-- The cells of a struct, stored one by one. -/
def setCells (w : World) (b : Nat) : Nat → List Value → World
  | _, [] => w
  | o, x :: xs => setCells (w.setCell ⟨b, o, none⟩ x) b (o + 1) xs
theorem setCells_facts (b : Nat) : ∀ (xs : List Value) (o : Nat) (w : World), (∀ i, i < xs.length → (w.cell? ⟨b, o + i, none⟩).isSome = true) →
    (∀ i u, xs[i]? = some u → (setCells w b o xs).cell? ⟨b, o + i, none⟩ = some u) ∧ (∀ c p, (c ≠ b ∨ p < o) → (setCells w b o xs).cell? ⟨c, p, none⟩ = w.cell? ⟨c, p, none⟩) ∧
    (∀ c p, (setCells w b o xs).frozen? ⟨c, p, none⟩ = w.frozen? ⟨c, p, none⟩) ∧ (setCells w b o xs).heap.size = w.heap.size ∧ (∀ B w0, B ≤ b → Below B w0 w → Below B w0 (setCells w b o xs))
  | [], o, w, _ => ⟨fun i u h => by simp at h, fun _ _ _ => rfl, fun _ _ => rfl, rfl, fun _ _ _ h => h⟩
  | x :: xs, o, w, hs => by
    have h0 : (w.cell? ⟨b, o, none⟩).isSome = true := by simpa using hs 0 (by simp)
    obtain ⟨u0, hu0⟩ := Option.isSome_iff_exists.1 h0
    have hoth : ∀ c p, (c ≠ b ∨ p ≠ o) → (w.setCell ⟨b, o, none⟩ x).cell? ⟨c, p, none⟩ = w.cell? ⟨c, p, none⟩ := fun c p h =>
      World.cell?_setCell_other w _ _ x (fun e => by injection e with e1 e2; rcases h with h | h; · exact h e1.symm
                                                     · exact h e2.symm)
    have hsame : (w.setCell ⟨b, o, none⟩ x).cell? ⟨b, o, none⟩ = some x := World.cell?_setCell_same _ _ _ hu0
    obtain ⟨i1, i2, i3, i4, i5⟩ := setCells_facts b xs (o + 1) (w.setCell ⟨b, o, none⟩ x) (fun i hi => by
      rw [hoth b _ (.inr (by omega))]; have := hs (i + 1) (by simpa using hi); rw [show o + 1 + i = o + (i + 1) from by omega]; exact this)
    refine ⟨fun i u hi => ?_, fun c p h => ?_, fun c p => ?_, ?_, fun B w0 hB h => i5 B w0 hB (h.setCell hB x)⟩
    · cases i with
      | zero => simp at hi; subst hi; exact (i2 b o (.inr (by omega))).trans hsame
      | succ i => rw [show o + (i + 1) = o + 1 + i from by omega]; exact i1 i u (by simpa using hi)
    · exact (i2 c p (h.imp id (by omega))).trans (hoth c p (h.imp id (by omega)))
    · exact (i3 c p).trans (by simp)
    · exact i4.trans (by simp [World.setCell])
theorem stored {w : World} {b : Nat} (xs : List Value) (hs : ∀ i, i < xs.length → (w.cell? ⟨b, i, none⟩).isSome = true) :
    ∃ w', setCells w b 0 xs = w' ∧ (∀ i u, xs[i]? = some u → w'.cell? ⟨b, i, none⟩ = some u) ∧ (∀ c p, c ≠ b → w'.cell? ⟨c, p, none⟩ = w.cell? ⟨c, p, none⟩) ∧
    (∀ c p, w'.frozen? ⟨c, p, none⟩ = w.frozen? ⟨c, p, none⟩) ∧ w'.heap.size = w.heap.size ∧ (∀ B w0, B ≤ b → Below B w0 w → Below B w0 w') := by
  obtain ⟨i1, i2, i3, i4, i5⟩ := setCells_facts b xs 0 w (fun i hi => by rw [Nat.zero_add]; exact hs i hi)
  exact ⟨_, rfl, fun i u h => by have := i1 i u h; rwa [Nat.zero_add] at this, fun c p h => i2 c p (.inl h), i3, i4, i5⟩
end Go.Proofs.YtcebndkiagbddaaDoor
