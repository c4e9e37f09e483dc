/- package hex: contracts (what each function computes). -/
import Derived.Test.YtcdoobkaobiacaaTab
import Derived.Test.YtcdoobkaobiacaaConv
import Derived.Test.YtcdoobkaobiacaaHexT
namespace Go.Proofs.Ytcdoobkaobiacaa
open Go.RowKit
set_option linter.unusedVariables false
set_option linter.unusedSimpArgs false

theorem ra1 {w : World} {Pub : Nat → Nat → Prop} {φ : Ghost} {x : EV} {vs : List Value} (h : RAs w Pub φ (avL [x]) vs) : ∃ u, vs = [u] ∧ RA w Pub φ x.av u := by
  unfold avL RAs at h
  obtain ⟨u, us, rfl, h1, h2⟩ := h
  unfold avL RAs at h2
  subst h2; exact ⟨u, rfl, h1⟩
theorem ra2 {w : World} {Pub : Nat → Nat → Prop} {φ : Ghost} {x y : EV} {vs : List Value} (h : RAs w Pub φ (avL [x, y]) vs) : ∃ u v, vs = [u, v] ∧ RA w Pub φ x.av u ∧ RA w Pub φ y.av v := by
  unfold avL RAs at h
  obtain ⟨u, us, rfl, h1, h2⟩ := h
  obtain ⟨v, rfl, h3⟩ := ra1 h2
  exact ⟨u, v, rfl, h1, h3⟩
theorem ra_val {w : World} {Pub : Nat → Nat → Prop} {φ : Ghost} {x u : Value} (h : RA w Pub φ (EV.v x).av u) : u = x := by unfold EV.av RA RP at h; exact h
theorem ra_u8v {w : World} {Pub : Nat → Nat → Prop} {φ : Ghost} {x : UInt8} {u : Value} (h : RA w Pub φ (EV.u8 x).av u) : u = .int .u8 (x.toNat : Int) := by unfold EV.av RA b8P RP at h; exact h
theorem u8of_small {x : Int} (h1 : 0 ≤ x) (h2 : x < 256) : u8of x = UInt8.ofNat x.toNat := by
  unfold u8of
  rw [Int.emod_eq_of_lt h1 h2]
end Go.Proofs.Ytcdoobkaobiacaa
