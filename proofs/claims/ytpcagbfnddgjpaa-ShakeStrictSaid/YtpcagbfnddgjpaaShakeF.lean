/- What package shake computes, in plain words. It names no function of the program. -/
import Derived.Test.YtpcagbfnddgjpaaPairF
namespace Go.Proofs.Ytpcagbfnddgjpaa
set_option linter.unusedVariables false
set_option linter.unusedSimpArgs false

def num4 (n : Int) : List UInt8 := [u8of (n / 2 ^ 24), u8of (n / 2 ^ 16), u8of (n / 2 ^ 8), u8of n]
theorem num4_length (n : Int) : (num4 n).length = 4 := rfl
theorem num4_ (n : Int) : [u8of (n / 2 ^ 24), u8of (n / 2 ^ 16), u8of (n / 2 ^ 8), u8of n] = num4 n := rfl
def shT (s w a b c : List UInt8) : List UInt8 := (tagS s (w ++ (a ++ b ++ c))).take 16
theorem shT_length (s w a b c : List UInt8) : (shT s w a b c).length = 16 := by unfold shT; rw [List.length_take, tagS_length]; rfl
theorem shT_ (s w a b c : List UInt8) : (tagS s (w ++ (a ++ b ++ c))).take 16 = shT s w a b c := rfl
def helloW : List UInt8 := [104, 101, 108, 108, 111]
/-- The body of a hello: nonce, mark, tag. -/
def hloB (o p s : List UInt8) (mine : Int) (v : List UInt8) : List UInt8 := v ++ markS o ++ shT (secS o p s) helloW (num4 mine) v (markS o)
theorem hloB_length (o p s : List UInt8) (mine : Int) {v : List UInt8} (hv : v.length = 8) : (hloB o p s mine v).length = 32 := by
  unfold hloB; rw [List.length_append, List.length_append, hv, markS_length, shT_length]
/-- What a hello's receiver says of it. -/
def grE (o p s : List UInt8) (mine : Int) (b : List UInt8) : Int := if hloB p o s mine (b.take 8) = b then 0 else 9
def grR (o p s : List UInt8) (mine : Int) (b : List UInt8) : List UInt8 := if hloB p o s mine (b.take 8) = b then hexText (b.take 8) else []
def answerW : List UInt8 := [97, 110, 115, 119, 101, 114]
/-- The body of an answer: nonce, tag. -/
def ansB (o p s hello : List UInt8) (from_ mine : Int) (v : List UInt8) : List UInt8 := v ++ shT (secS o p s) (answerW ++ hello) (num4 from_) (num4 mine) v
theorem ansB_length (o p s hello : List UInt8) (f mine : Int) {v : List UInt8} (hv : v.length = 8) : (ansB o p s hello f mine v).length = 24 := by
  unfold ansB; rw [List.length_append, hv, shT_length]
/-- The bytes of a nonce. -/
def nonV (k : List UInt8) (n : Int) : List UInt8 := (tagS k (nonB n)).take 8
theorem nonV_length (k : List UInt8) (n : Int) : (nonV k n).length = 8 := by unfold nonV; rw [List.length_take, tagS_length]; rfl
theorem nonS_V (k : List UInt8) (n : Int) : nonS k n = hexText (nonV k n) := (nonS_ k n).symm
theorem nonS_un (k : List UInt8) (n : Int) : unhex (nonS k n) = some (nonV k n) := by rw [nonS_V]; exact unhex_hexText _
theorem hlo_take (o p s : List UInt8) (mine : Int) {v : List UInt8} (hv : v.length = 8) : (hloB o p s mine v).take 8 = v := by
  unfold hloB; rw [List.append_assoc, List.take_append_of_le_length (by omega), List.take_of_length_le (by omega)]
theorem hlo_ok (o p s : List UInt8) (mine : Int) {v : List UInt8} (hv : v.length = 8) : grE p o s mine (hloB o p s mine v) = 0 ∧ grR p o s mine (hloB o p s mine v) = hexText v := by
  unfold grE grR; rw [hlo_take o p s mine hv, if_pos rfl, if_pos rfl]; exact ⟨rfl, rfl⟩
theorem ans_take (o p s h : List UInt8) (f mine : Int) {v : List UInt8} (hv : v.length = 8) : (ansB o p s h f mine v).take 8 = v ∧ (ansB o p s h f mine v).drop 8 = shT (secS o p s) (answerW ++ h) (num4 f) (num4 mine) v := by
  unfold ansB
  refine ⟨?_, ?_⟩
  · rw [List.take_append_of_le_length (by omega), List.take_of_length_le (by omega)]
  · rw [List.drop_append_of_le_length (by omega), List.drop_of_length_le (by omega)]; rfl
/-- Why an answer is not taken. -/
def fiE (o p s h : List UInt8) (live : Bool) (hm snd rcv : Int) (b : List UInt8) : Int :=
  if live = false ∨ ¬ rcv = hm then 13 else if shT (secS o p s) (answerW ++ h) (num4 rcv) (num4 snd) (b.take 8) = b.drop 8 then 0 else 9
theorem fiE_ok {o p s h : List UInt8} {live : Bool} {hm snd rcv : Int} {b : List UInt8} (e : fiE o p s h live hm snd rcv b = 0) : live = true ∧ rcv = hm ∧ shT (secS o p s) (answerW ++ h) (num4 rcv) (num4 snd) (b.take 8) = b.drop 8 := by
  unfold fiE at e
  by_cases h1 : live = false ∨ ¬ rcv = hm
  · rw [if_pos h1] at e; cases e
  · rw [if_neg h1] at e
    split at e
    · next h2 => exact ⟨by cases live <;> simp_all, by simp at h1; exact h1.2, h2⟩
    · cases e
attribute [irreducible] num4 shT
end Go.Proofs.Ytpcagbfnddgjpaa
