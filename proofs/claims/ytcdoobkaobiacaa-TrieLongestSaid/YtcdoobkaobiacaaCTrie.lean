/- Tries: contracts of sides, lists and trees. -/
import Derived.Test.YtcdoobkaobiacaaTab
import Derived.Test.YtcdoobkaobiacaaCNet
namespace Go.Proofs.Ytcdoobkaobiacaa
open Go.RowKit
set_option linter.unusedVariables false
set_option linter.unusedSimpArgs false

theorem shr32_nat (c : UInt32) (n : Nat) : (shr32 c n).toNat = c.toNat >>> n := by
  show (c.toNat >>> n) % 2 ^ 32 = _
  exact Nat.mod_eq_of_lt (Nat.lt_of_le_of_lt (Nat.shiftRight_le _ _) (by have := c.toNat_lt; omega))
theorem side_fin {p q : List Bool} (h : p.length < 32) : ((shr32 (adr q) (31 - (p.length : Int)).toNat &&& UInt32.ofNat 1).toNat : Int) = bif bitAt q p.length then 1 else 0 := by
  have e : (31 - (p.length : Int)).toNat = 31 - p.length := by omega
  have k := side_adr (q := q) h
  rw [e, UInt32.toNat_and, shr32_nat, adr_nat, show (UInt32.ofNat 1).toNat = 2 ^ 1 - 1 from rfl, Nat.and_two_pow_sub_one_eq_mod, Nat.pow_one, k]
  cases bitAt q p.length <;> rfl
set_option maxRecDepth 100000 in
set_option maxHeartbeats 4000000 in
theorem cf_sideO {p q : List Bool} (h : p.length < 32) : Cf Try.prog 22 [] [netE p, netE q] [] (.i (bif bitAt q p.length then 1 else 0)) := by
  refine Cf.introR tabT {} D0 (by kernel_rfl) tab_ok Try.func22 Try.ntmps22 rfl rfl (D0_ok) (by kernel_rfl) ?_
  repeat (refine Ob.mk ?_ ?_; focus (first | (exact side_fin h) | omega))
  trivial
theorem cf_side {p q : List Bool} {b : Bool} (h : p.length < 32) (hb : bitAt q p.length = b) : Cf Try.prog 22 [] [netE p, netE q] [] (.i (bif b then 1 else 0)) := by
  rw [← hb]; exact cf_sideO h
set_option maxRecDepth 100000 in
set_option maxHeartbeats 4000000 in
theorem cf_below {p q : List Bool} {b : Bool} (hp : p.length ≤ 32) (hq : q.length ≤ 32) (h : p ++ [b] <+: q) : Cf Try.prog 39 [] [netE p, netE q] [] (.b true) := by
  have hl : p.length + 1 ≤ q.length := by have := h.length_le; simpa using this
  refine Cf.introR tabT {} D0 (by kernel_rfl) tab_ok Try.func39 Try.ntmps39 rfl rfl (D0_ok) (by kernel_rfl) ?_
  refine gx2 (cf_nHolds hp hq) (fun hk => ⟨fun _ => hk, ?_⟩)
  repeat (refine Ob.mk ?_ ?_; (focus (first | (rw [decide_eq_true (by omega : (p.length : Int) < (q.length : Int)), decide_eq_true (pre_of h)]; rfl) | (intro _; exact Eq.refl _) | (exact fun hg => beq_t hg) | (exact fun hg => hg))))
  trivial
end Go.Proofs.Ytcdoobkaobiacaa
