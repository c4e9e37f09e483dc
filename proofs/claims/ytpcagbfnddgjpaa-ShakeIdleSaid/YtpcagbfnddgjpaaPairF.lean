/- What package pair computes, in plain words. It names no function of the program. -/
import Derived.Test.YtpcagbfnddgjpaaMacF
import Derived.Test.YtpcagbfnddgjpaaFA
namespace Go.Proofs.Ytpcagbfnddgjpaa
set_option linter.unusedVariables false
set_option linter.unusedSimpArgs false

def markW : List UInt8 := [109, 97, 114, 107]
def markS (k : List UInt8) : List UInt8 := (shaSum (markW ++ hexB k)).take 8
def markR (k : List UInt8) : List UInt8 := if ¬ hexC k = 0 then [] else markS k
theorem markS_length (k : List UInt8) : (markS k).length = 8 := by
  unfold markS; rw [List.length_take, shaSum_length]; rfl
theorem markR_ok {k : List UInt8} (h : hexC k = 0) : markR k = markS k := if_neg (by omega)
/-- The bytes of which a nonce is the tag. -/
def nonB (n : Int) : List UInt8 := [110, u8of (n / 2 ^ 24), u8of (n / 2 ^ 16), u8of (n / 2 ^ 8), u8of n]
theorem nonB_length (n : Int) : (nonB n).length = 5 := rfl
def nonS (k : List UInt8) (n : Int) : List UInt8 := hexText ((tagS k (nonB n)).take 8)
def nonE (k : List UInt8) (n : Int) : Int := if n < 0 ∨ 4294967295 < n then 4 else tagE k (nonB n)
def nonR (k : List UInt8) (n : Int) : List UInt8 := if n < 0 ∨ 4294967295 < n then [] else if ¬ tagE k (nonB n) = 0 then [] else nonS k n
theorem nonS_length (k : List UInt8) (n : Int) : (nonS k n).length = 16 := by
  unfold nonS; rw [hexText_length, List.length_take, tagS_length]; rfl
theorem non_ok {k : List UInt8} {n : Int} (h : hexC k = 0) (h1 : 0 ≤ n) (h2 : n ≤ 4294967295) : nonE k n = 0 ∧ nonR k n = nonS k n := by
  have t := (tag_ok (k := k) (b := nonB n) h (by rw [nonB_length]; decide)).1
  unfold nonE nonR
  rw [if_neg (by omega), if_neg (by omega), if_neg (by omega)]; exact ⟨t, rfl⟩
/-- The secret of two ends. -/
def minB (a b : List UInt8) : List UInt8 := bif Op.bytesLess a b || decide (a = b) then a else b
def maxB (a b : List UInt8) : List UInt8 := bif Op.bytesLess a b then b else a
def secIn (a b : List UInt8) : List UInt8 := hexB (minB a b) ++ hexB (maxB a b)
theorem less_total : ∀ a b : List UInt8, ¬ a = b → Op.bytesLess a b = !Op.bytesLess b a
  | [], [], h => absurd rfl h
  | [], b :: l, _ => by simp [Op.bytesLess]
  | a :: l, [], _ => by simp [Op.bytesLess]
  | a :: l, b :: m, h => by
    simp only [Op.bytesLess]
    by_cases e : a = b
    · subst e
      have ih := less_total l m (fun q => h (by rw [q]))
      simp [ih]
    · have : a < b ∨ b < a := by
        rcases Nat.lt_trichotomy a.toNat b.toNat with q | q | q
        · exact .inl q
        · exact absurd (UInt8.toNat_inj.1 q) e
        · exact .inr q
      have ee : ¬ b = a := fun q => e q.symm
      have : (decide (a < b)) = !decide (b < a) := by
        rcases this with q | q
        · have : ¬ b < a := fun q2 => by have := UInt8.lt_iff_toNat_lt.1 q; have := UInt8.lt_iff_toNat_lt.1 q2; omega
          simp [q, this]
        · have : ¬ a < b := fun q2 => by have := UInt8.lt_iff_toNat_lt.1 q; have := UInt8.lt_iff_toNat_lt.1 q2; omega
          simp [q, this]
      have q1 : (a == b) = false := by simpa using e
      have q2 : (b == a) = false := by simpa using ee
      simp [q1, q2, this]
theorem secIn_comm {a b : List UInt8} (h : ¬ a = b) : secIn a b = secIn b a := by
  have t := less_total a b h
  have h2 : ¬ b = a := fun q => h q.symm
  unfold secIn minB maxB
  rw [t, decide_eq_false h, decide_eq_false h2]
  cases Op.bytesLess b a <;> rfl
theorem minB_ok {a b : List UInt8} (ha : hexC a = 0) (hb : hexC b = 0) : hexC (minB a b) = 0 := by
  unfold minB; cases (Op.bytesLess a b || decide (a = b)) <;> first | exact ha | exact hb
theorem maxB_ok {a b : List UInt8} (ha : hexC a = 0) (hb : hexC b = 0) : hexC (maxB a b) = 0 := by
  unfold maxB; cases Op.bytesLess a b <;> first | exact ha | exact hb
theorem secIn_length {a b : List UInt8} (ha : hexC a = 0) (hb : hexC b = 0) : (secIn a b).length = 64 := by
  have h1 := (key_bytes (minB_ok ha hb)).2.2
  have h2 := (key_bytes (maxB_ok ha hb)).2.2
  unfold secIn; rw [List.length_append, h1, h2]
def pairW : List UInt8 := [112, 97, 105, 114]
def secS (a b c : List UInt8) : List UInt8 := derS (hexText (shaSum (secIn a b))) (pairW ++ c)
theorem secS_comm {a b : List UInt8} (c : List UInt8) (h : ¬ a = b) : secS a b c = secS b a c := by unfold secS; rw [secIn_comm h]
theorem secS_length (a b c : List UInt8) : (secS a b c).length = 64 := derS_length _ _
theorem secS_key (a b c : List UInt8) : hexC (secS a b c) = 0 := derS_key _ _
theorem nonS_ (k : List UInt8) (n : Int) : hexText ((tagS k (nonB n)).take 8) = nonS k n := rfl
theorem markS_ (k : List UInt8) : (shaSum ([109, 97, 114, 107] ++ hexB k)).take 8 = markS k := rfl
theorem nonB_ (n : Int) : [110, u8of (n / 2 ^ 24), u8of (n / 2 ^ 16), u8of (n / 2 ^ 8), u8of n] = nonB n := rfl
attribute [irreducible] markS nonS nonB
end Go.Proofs.Ytpcagbfnddgjpaa
