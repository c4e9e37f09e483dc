/- package hex: contracts (what each function computes). -/
import Derived.Test.YtnopdnclefopbaaTab
import Derived.Test.YtnopdnclefopbaaConv
import Derived.Test.YtnopdnclefopbaaHexT
namespace Go.Proofs.Ytnopdnclefopbaa
open Go.RowKit
set_option linter.unusedVariables false
set_option linter.unusedSimpArgs false

theorem ra1 {w : World} {Pub : Nat → Nat → Prop} {φ : Ghost} {x : EV} {vs : List Value} (h : RAs w Pub φ (avL [x]) vs) : ∃ u, vs = [u] ∧ RA w Pub φ x.av u := by
  unfold avL RAs at h
  obtain ⟨u, us, rfl, h1, h2⟩ := h
  unfold avL RAs at h2
  subst h2; exact ⟨u, rfl, h1⟩
theorem ra2 {w : World} {Pub : Nat → Nat → Prop} {φ : Ghost} {x y : EV} {vs : List Value} (h : RAs w Pub φ (avL [x, y]) vs) : ∃ u v, vs = [u, v] ∧ RA w Pub φ x.av u ∧ RA w Pub φ y.av v := by
  unfold avL RAs at h
  obtain ⟨u, us, rfl, h1, h2⟩ := h
  obtain ⟨v, rfl, h3⟩ := ra1 h2
  exact ⟨u, v, rfl, h1, h3⟩
theorem ra_val {w : World} {Pub : Nat → Nat → Prop} {φ : Ghost} {x u : Value} (h : RA w Pub φ (EV.v x).av u) : u = x := by unfold EV.av RA RP at h; exact h
theorem ra_u8v {w : World} {Pub : Nat → Nat → Prop} {φ : Ghost} {x : UInt8} {u : Value} (h : RA w Pub φ (EV.u8 x).av u) : u = .int .u8 (x.toNat : Int) := by unfold EV.av RA b8P RP at h; exact h
theorem cf_hexText {l : List UInt8} (hl : l.length ≤ 1000000) : Cf Try.prog 28 [] [.bs l] [] (.s (hexText l)) :=
  Cf.of (by kernel_rfl) fun w Pub φ vs hp hR => by
    obtain ⟨u, rfl, h⟩ := ra1 hR
    exact text_any u l w (bytes_R hp h) hl
theorem cf_indexByte {l : List UInt8} {c : UInt8} : Cf Try.prog 52 [] [.s l, .u8 c] [] (.i (Lib.indexByte l c)) :=
  Cf.of (by kernel_rfl) fun w Pub φ vs hp hR => by
    obtain ⟨u, v, rfl, h1, h2⟩ := ra2 hR
    have e1 := ra_val h1; have e2 := ra_u8v h2
    subst e1 e2
    have e3 : (((c.toNat : Nat) : Int).toNat.toUInt8) = c := by rw [Int.toNat_natCast]; exact UInt8.ofNat_toNat
    refine (Try.strings_IndexByte _ _ _).mono fun e w' k => ?_
    rw [e3] at k
    exact ⟨k.1, by rw [k.2]; exact Below.refl _ _⟩
end Go.Proofs.Ytnopdnclefopbaa
