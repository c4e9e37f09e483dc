/- Paths of bits as nets, plainly. It names no function of the program. -/
import Derived.Test.YtfpglljpngiipaaDoorTrieF
namespace Go.Proofs.YtfpglljpngiipaaDoor
set_option linter.unusedVariables false
set_option linter.unusedSimpArgs false

def adrN : List Bool → Nat
  | [] => 0
  | c :: p => (bif c then 2147483648 else 0) + adrN p / 2
theorem adrN_lt : ∀ p, adrN p < 4294967296
  | [] => by decide
  | c :: p => by
    have := adrN_lt p
    unfold adrN; cases c <;> simp only [cond_true, cond_false] <;> omega
theorem bit32 {x j : Nat} (h : x < 4294967296) (hj : 32 ≤ j) : x.testBit j = false := Nat.testBit_lt_two_pow (Nat.lt_of_lt_of_le h (Nat.pow_le_pow_right (n := 2) (i := 32) (by decide) hj))
theorem adrN_bit : ∀ (p : List Bool) (i : Nat), i < 32 → (adrN p).testBit (31 - i) = bitAt p i
  | [], i, _ => by unfold adrN bitAt; simp
  | c :: p, i, h => by
    have hl : adrN p / 2 < 2 ^ 31 := by have := adrN_lt p; omega
    cases i with
    | zero =>
      have e : (bif c then 2147483648 else 0) = (bif c then 2 ^ 31 else 0) := rfl
      unfold adrN
      cases c with
      | false => simp only [cond_false, Nat.zero_add]; rw [Nat.testBit_lt_two_pow hl]; rfl
      | true => simp only [cond_true]; rw [show (2147483648 : Nat) = 2 ^ 31 from rfl, Nat.testBit_two_pow_add_eq, Nat.testBit_lt_two_pow hl]; rfl
    | succ i =>
      have e : (adrN p / 2).testBit (31 - (i + 1)) = bitAt p i := by rw [Nat.testBit_div_two, show 31 - (i + 1) + 1 = 31 - i from by omega]; exact adrN_bit p i (by omega)
      have e2 : bitAt (c :: p) (i + 1) = bitAt p i := by unfold bitAt; simp
      rw [e2, ← e]
      have e3 : adrN (c :: p) = (bif c then 2147483648 else 0) + adrN p / 2 := by rw [adrN]
      rw [e3]
      cases c with
      | false => simp only [cond_false, Nat.zero_add]
      | true => simp only [cond_true]; rw [show (2147483648 : Nat) = 2 ^ 31 from rfl, Nat.testBit_two_pow_add_gt (by omega)]
def pathN (a k : Nat) : List Bool := (List.range k).map fun i => a.testBit (31 - i)
theorem pathN_len (a k : Nat) : (pathN a k).length = k := by unfold pathN; simp
theorem pathN_bit {a k i : Nat} : bitAt (pathN a k) i = (decide (i < k) && a.testBit (31 - i)) := by
  unfold bitAt pathN
  rw [List.getD_eq_getElem?_getD, List.getElem?_map]
  by_cases h : i < k
  · rw [List.getElem?_range h]; simp [h]
  · rw [List.getElem?_eq_none (by simp; omega)]; simp [h]
theorem pcut_lt {a : Nat} (k : Nat) (h : a < 4294967296) : pcut a k < 4294967296 := Nat.lt_of_le_of_lt (pcut_le a k) h
theorem pcut_bit {a k i : Nat} (hk : k ≤ 32) (h : i < 32) : (pcut a k).testBit (31 - i) = (decide (i < k) && a.testBit (31 - i)) := by
  unfold pcut
  rw [Nat.testBit_mul_two_pow, Nat.testBit_div_two_pow]
  by_cases h' : i < k
  · rw [show 31 - i - (32 - k) + (32 - k) = 31 - i from by omega, decide_eq_true (by omega : 32 - k ≤ 31 - i), decide_eq_true h']
  · rw [decide_eq_false (by omega : ¬ 32 - k ≤ 31 - i), decide_eq_false h', Bool.false_and, Bool.false_and]
theorem nat32_ext {a b : Nat} (ha : a < 4294967296) (hb : b < 4294967296) (h : ∀ i, i < 32 → a.testBit (31 - i) = b.testBit (31 - i)) : a = b := by
  refine Nat.eq_of_testBit_eq fun j => ?_
  by_cases hj : j < 32
  · have := h (31 - j) (by omega)
    rwa [show 31 - (31 - j) = j from by omega] at this
  · rw [bit32 ha (by omega), bit32 hb (by omega)]
theorem adrN_path {a k : Nat} (ha : a < 4294967296) (hk : k ≤ 32) : adrN (pathN a k) = pcut a k := by
  refine nat32_ext (adrN_lt _) (pcut_lt k ha) fun i hi => ?_
  rw [adrN_bit _ _ hi, pathN_bit, pcut_bit hk hi]
theorem bitAt_take {p : List Bool} {k i : Nat} : bitAt (p.take k) i = (decide (i < k) && bitAt p i) := by
  unfold bitAt
  rw [List.getD_eq_getElem?_getD, List.getD_eq_getElem?_getD, List.getElem?_take]
  by_cases h : i < k
  · simp [h]
  · simp [h]
theorem pcut_adr (p : List Bool) {k : Nat} (hk : k ≤ 32) : pcut (adrN p) k = adrN (p.take k) := by
  refine nat32_ext (pcut_lt k (adrN_lt p)) (adrN_lt _) fun i hi => ?_
  rw [pcut_bit hk hi, adrN_bit _ _ hi, adrN_bit _ _ hi, bitAt_take]
theorem adrN_inj {p q : List Bool} (hl : p.length = q.length) (h : p.length ≤ 32) (e : adrN p = adrN q) : p = q := by
  refine List.ext_getElem hl fun i h1 h2 => ?_
  have a := adrN_bit p i (by omega)
  have b := adrN_bit q i (by omega)
  rw [e, b] at a
  unfold bitAt at a
  rw [List.getD_eq_getElem?_getD, List.getD_eq_getElem?_getD, List.getElem?_eq_getElem h1, List.getElem?_eq_getElem h2] at a
  exact a.symm
abbrev adr (p : List Bool) : UInt32 := UInt32.ofNat (adrN p)
theorem adr_nat (p : List Bool) : (adr p).toNat = adrN p := by
  show adrN p % 2 ^ 32 = adrN p
  exact Nat.mod_eq_of_lt (by have := adrN_lt p; omega)
theorem adr_inj {p q : List Bool} (hl : p.length = q.length) (h : p.length ≤ 32) (e : adr p = adr q) : p = q :=
  adrN_inj hl h (by rw [← adr_nat, ← adr_nat, e])
theorem adr_valid {p : List Bool} (h : p.length ≤ 32) : pvalid (adr p).toNat (p.length : Int) := by
  rw [adr_nat]
  refine ⟨by omega, by omega, ?_⟩
  rw [Int.toNat_natCast]
  have := pcut_adr p h
  rw [List.take_length] at this
  rw [← this]; exact pcut_mod _ _
theorem pcheck_adr {p : List Bool} (h : p.length ≤ 32) : pcheck (adr p).toNat (p.length : Int) = 0 := pcheck_zero.2 (adr_valid h)
end Go.Proofs.YtfpglljpngiipaaDoor
