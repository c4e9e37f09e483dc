/- What package pair computes, in plain words. It names no function of the program. -/
import Derived.Test.YtpcagbfnddgjpaaMacF
import Derived.Test.YtpcagbfnddgjpaaFA
namespace Go.Proofs.Ytpcagbfnddgjpaa
set_option linter.unusedVariables false
set_option linter.unusedSimpArgs false

def markW : List UInt8 := [109, 97, 114, 107]
def markS (k : List UInt8) : List UInt8 := (shaSum (markW ++ hexB k)).take 8
def markR (k : List UInt8) : List UInt8 := if ¬ hexC k = 0 then [] else markS k
theorem markS_length (k : List UInt8) : (markS k).length = 8 := by
  unfold markS; rw [List.length_take, shaSum_length]; rfl
theorem markR_ok {k : List UInt8} (h : hexC k = 0) : markR k = markS k := if_neg (by omega)
/-- The bytes of which a nonce is the tag. -/
def nonB (n : Int) : List UInt8 := [110, u8of (n / 2 ^ 24), u8of (n / 2 ^ 16), u8of (n / 2 ^ 8), u8of n]
theorem nonB_length (n : Int) : (nonB n).length = 5 := rfl
def nonS (k : List UInt8) (n : Int) : List UInt8 := hexText ((tagS k (nonB n)).take 8)
def nonE (k : List UInt8) (n : Int) : Int := if n < 0 ∨ 4294967295 < n then 4 else tagE k (nonB n)
def nonR (k : List UInt8) (n : Int) : List UInt8 := if n < 0 ∨ 4294967295 < n then [] else if ¬ tagE k (nonB n) = 0 then [] else nonS k n
theorem nonS_length (k : List UInt8) (n : Int) : (nonS k n).length = 16 := by
  unfold nonS; rw [hexText_length, List.length_take, tagS_length]; rfl
theorem non_ok {k : List UInt8} {n : Int} (h : hexC k = 0) (h1 : 0 ≤ n) (h2 : n ≤ 4294967295) : nonE k n = 0 ∧ nonR k n = nonS k n := by
  have t := (tag_ok (k := k) (b := nonB n) h (by rw [nonB_length]; decide)).1
  unfold nonE nonR
  rw [if_neg (by omega), if_neg (by omega), if_neg (by omega)]; exact ⟨t, rfl⟩
/-- The secret of two ends. -/
def secIn (a b : List UInt8) : List UInt8 := hexB (bif decide (b < a) then b else a) ++ hexB (bif decide (a < b) then b else a)
def pairW : List UInt8 := [112, 97, 105, 114]
def secS (a b c : List UInt8) : List UInt8 := derS (hexText (shaSum (secIn a b))) (pairW ++ c)
theorem nonS_ (k : List UInt8) (n : Int) : hexText ((tagS k (nonB n)).take 8) = nonS k n := rfl
theorem markS_ (k : List UInt8) : (shaSum ([109, 97, 114, 107] ++ hexB k)).take 8 = markS k := rfl
theorem nonB_ (n : Int) : [110, u8of (n / 2 ^ 24), u8of (n / 2 ^ 16), u8of (n / 2 ^ 8), u8of n] = nonB n := rfl
attribute [irreducible] markS nonS nonB
end Go.Proofs.Ytpcagbfnddgjpaa
