/- Plain facts about the join of two networks. No program in sight. -/
import Derived.Test.YtcebndkiagbddaaDoorMathNet
import Derived.Lib.BitFns
import Derived.Lib.ItoaNum
namespace Go.Proofs.YtcebndkiagbddaaDoor

theorem lt_bitLen (x k : Nat) (hx : x < 2 ^ 64) : Lib.bitLen x ≤ k ↔ x < 2 ^ k := by
  constructor
  · intro h
    by_cases h0 : x = 0
    · subst h0; exact Nat.two_pow_pos k
    · exact Nat.lt_of_lt_of_le (Lib.bitLenAux_bounds 64 x hx h0).2.2 (Nat.pow_le_pow_right (by omega) h)
  · intro h; exact Lib.bitLenAux_le 64 x k h
/-- Two addresses have their first k bits in common. -/
theorem pcut_same (a b k : Nat) (ha : a < 4294967296) (hb : b < 4294967296) (hk : k ≤ 32) : pcut a k = pcut b k ↔ (k : Int) ≤ 32 - (Lib.bitLen (a ^^^ b) : Int) := by
  have hx : a ^^^ b < 2 ^ 32 := Nat.xor_lt_two_pow (by simpa using ha) (by simpa using hb)
  have hx64 : a ^^^ b < 2 ^ 64 := Nat.lt_of_lt_of_le hx (Nat.pow_le_pow_right (by omega) (by omega))
  have h1 : pcut a k = pcut b k ↔ a / 2 ^ (32 - k) = b / 2 ^ (32 - k) := by
    unfold pcut
    exact ⟨fun h => Nat.eq_of_mul_eq_mul_right (Nat.two_pow_pos _) h, fun h => by rw [h]⟩
  have h2 : a / 2 ^ (32 - k) = b / 2 ^ (32 - k) ↔ a ^^^ b < 2 ^ (32 - k) := by
    rw [← Nat.shiftRight_eq_div_pow, ← Nat.shiftRight_eq_div_pow]
    constructor
    · intro h
      have : (a ^^^ b) >>> (32 - k) = 0 := by rw [Nat.shiftRight_xor_distrib, h, Nat.xor_self]
      rw [Nat.shiftRight_eq_div_pow] at this
      exact (Nat.div_eq_zero_iff_lt (Nat.two_pow_pos _)).1 this
    · intro h
      have h3 : (a ^^^ b) >>> (32 - k) = 0 := by rw [Nat.shiftRight_eq_div_pow]; exact Nat.div_eq_of_lt h
      rw [Nat.shiftRight_xor_distrib] at h3
      have h4 : (a >>> (32 - k)) ^^^ ((a >>> (32 - k)) ^^^ (b >>> (32 - k))) = (a >>> (32 - k)) ^^^ 0 := by rw [h3]
      rw [← Nat.xor_assoc, Nat.xor_self, Nat.zero_xor, Nat.xor_zero] at h4
      exact h4.symm
  rw [h1, h2, ← lt_bitLen _ _ hx64]
  omega
/-- How many bits the join has. -/
def pjoin (a : Nat) (n : Nat) (b : Nat) (m : Nat) : Nat := min (min n m) (32 - Lib.bitLen (a ^^^ b))
theorem pjoin_int (a n b m : Nat) (ha : a < 4294967296) (hb : b < 4294967296) : min (min (n : Int) (m : Int)) (32 - (Lib.bitLen (a ^^^ b) : Int)) = (pjoin a n b m : Int) := by
  have hx : a ^^^ b < 2 ^ 32 := Nat.xor_lt_two_pow (by simpa using ha) (by simpa using hb)
  have := Lib.bitLenAux_le 64 _ _ hx
  unfold pjoin Lib.bitLen at *; omega
theorem pjoin_le (a n b m : Nat) : pjoin a n b m ≤ n ∧ pjoin a n b m ≤ m := by unfold pjoin; omega
theorem pjoin_comm (a n b m : Nat) : pjoin a n b m = pjoin b m a n := by unfold pjoin; rw [Nat.xor_comm, Nat.min_comm n m]
theorem pjoin_cut (a n b m : Nat) (ha : a < 4294967296) (hb : b < 4294967296) (hn : n ≤ 32) : pcut a (pjoin a n b m) = pcut b (pjoin a n b m) := by
  have h := pjoin_le a n b m
  refine (pcut_same a b _ ha hb (by omega)).2 ?_
  rw [← pjoin_int a n b m ha hb]; omega
theorem pjoin_holds (a n b m : Nat) (hn : n ≤ 32) (va : pvalid a n) : pholds (pcut a (pjoin a n b m)) (pjoin a n b m : Int) a n = true := by
  have h := pjoin_le a n b m
  refine pholds_iff.2 ⟨va, by omega, pcut_valid a _ (by omega), by rw [Int.toNat_natCast]⟩
theorem pjoin_least (a n b m c : Nat) (k : Int) (ha : a < 4294967296) (hb : b < 4294967296) (hn : n ≤ 32) (h1 : pholds c k a n = true) (h2 : pholds c k b m = true) :
    pholds c k (pcut a (pjoin a n b m)) (pjoin a n b m : Int) = true := by
  obtain ⟨_, a2, a3, a4⟩ := pholds_iff.1 h1
  obtain ⟨_, b2, _, b4⟩ := pholds_iff.1 h2
  have h := pjoin_le a n b m
  obtain ⟨q, rfl⟩ := Int.eq_ofNat_of_zero_le a3.1
  rw [Int.toNat_natCast] at a4 b4
  have hq := (pcut_same a b q ha hb (by omega)).1 (a4.trans b4.symm)
  have hj : (q : Int) ≤ (pjoin a n b m : Int) := by rw [← pjoin_int a n b m ha hb]; omega
  refine pholds_iff.2 ⟨pcut_valid a _ (by omega), hj, a3, ?_⟩
  rw [Int.toNat_natCast, pcut_pcut a (by omega), a4]
end Go.Proofs.YtcebndkiagbddaaDoor
