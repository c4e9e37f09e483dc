/- int's bitwise operations on numbers that are not negative; no program in sight. -/
import Derived.Test.YtnopdnclefopbaaKit
import Derived.IntWalk
import Derived.Laws.BitsAllLaws
namespace Go.Proofs.Ytnopdnclefopbaa
open Go.RowKit
set_option linter.unusedVariables false

theorem i64_or_nat (a b : Nat) (ha : a < 9223372036854775808) (hb : b < 9223372036854775808) : bits .or .i64 (a : Int) (b : Int) = ((a ||| b : Nat) : Int) := by
  have h : a ||| b < 2 ^ 63 := Nat.or_lt_two_pow (by simpa using ha) (by simpa using hb)
  show IntKind.i64.wrap ((BitVec.ofInt 64 (a : Int) ||| BitVec.ofInt 64 (b : Int)).toNat : Int) = _
  rw [BitVec.toNat_or, ofInt_u64 a (by omega), ofInt_u64 b (by omega)]
  exact IntWalk.i64_in _ (by omega)
theorem i64_and_nat (a b : Nat) (ha : a < 9223372036854775808) (hb : b < 9223372036854775808) : bits .and .i64 (a : Int) (b : Int) = ((a &&& b : Nat) : Int) := by
  have h : a &&& b ≤ a := Nat.and_le_left
  show IntKind.i64.wrap ((BitVec.ofInt 64 (a : Int) &&& BitVec.ofInt 64 (b : Int)).toNat : Int) = _
  rw [BitVec.toNat_and, ofInt_u64 a (by omega), ofInt_u64 b (by omega)]
  exact IntWalk.i64_in _ (by omega)
theorem i64_and_mask (a k m : Nat) (ha : a < 9223372036854775808) (hm : m = 2 ^ k - 1) (hk : k < 63) : bits .and .i64 (a : Int) (m : Int) = ((a % 2 ^ k : Nat) : Int) := by
  have h2 : (2 : Nat) ^ k < 2 ^ 63 := Nat.pow_lt_pow_right (by omega) hk
  rw [i64_and_nat a m ha (by omega), hm, Nat.and_two_pow_sub_one_eq_mod]
theorem not16 (n : Nat) (h : n < 65536) : 65535 ^^^ n = 65535 - n := by
  apply Nat.eq_of_testBit_eq
  intro i
  rw [show 65535 - n = 2 ^ 16 - (n + 1) from by omega, Nat.testBit_two_pow_sub_succ (by omega), Nat.testBit_xor, show (65535 : Nat) = 2 ^ 16 - 1 from rfl, Nat.testBit_two_pow_sub_one]
  by_cases hi : i < 16
  · simp [hi]
  · have : n.testBit i = false := Nat.testBit_lt_two_pow (Nat.lt_of_lt_of_le h (by
      have : 2 ^ 16 ≤ 2 ^ i := Nat.pow_le_pow_right (by omega) (by omega)
      simpa using this))
    simp [hi, this]
theorem u16_not (n : Nat) (h : n < 65536) : bits .xor .u16 IntKind.u16.max (n : Int) = ((65535 - n : Nat) : Int) := by
  have := u16_xor_nat 65535 n (by omega) h
  rw [not16 n h] at this
  exact this
end Go.Proofs.Ytnopdnclefopbaa
