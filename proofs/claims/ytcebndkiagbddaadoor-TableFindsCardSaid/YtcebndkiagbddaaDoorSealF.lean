/- What package seal computes, in plain words. It names no function of the program. -/
import Derived.Test.YtcebndkiagbddaaDoorMacF
import Derived.Test.YtcebndkiagbddaaDoorFA
namespace Go.Proofs.YtcebndkiagbddaaDoor
set_option linter.unusedVariables false
set_option linter.unusedSimpArgs false

/-- The highest k of eight bytes of a number. -/
def numP (n : Int) : Nat → List UInt8
  | 0 => []
  | k + 1 => numP n k ++ [u8of (n / 2 ^ (8 * (7 - (k : Int))).toNat)]
theorem numP0 (n : Int) : numP n 0 = [] := rfl
theorem numPs (n : Int) (k : Nat) : numP n (k + 1) = numP n k ++ [u8of (n / 2 ^ (8 * (7 - (k : Int))).toNat)] := rfl
theorem numP_length (n : Int) : ∀ k, (numP n k).length = k
  | 0 => rfl
  | k + 1 => by rw [numPs, List.length_append, numP_length n k]; rfl
def num8 (n : Int) : List UInt8 := numP n 8
theorem num8_ (n : Int) : numP n 8 = num8 n := rfl
theorem num8_length (n : Int) : (num8 n).length = 8 := numP_length n 8
def flowW : List UInt8 := [102, 108, 111, 119]
def sealW : List UInt8 := [115, 101, 97, 108]
/-- Blocks of a key's stream. -/
def strL (k : List UInt8) (c : Int) : Nat → List UInt8
  | 0 => []
  | m + 1 => strL k c m ++ tagS k (flowW ++ num8 c ++ num8 (m : Int))
theorem strL0 (k : List UInt8) (c : Int) : strL k c 0 = [] := rfl
theorem strLs (k : List UInt8) (c : Int) (m : Nat) : strL k c (m + 1) = strL k c m ++ tagS k ([102, 108, 111, 119] ++ num8 c ++ num8 (m : Int)) := rfl
theorem strL_length (k : List UInt8) (c : Int) : ∀ m, (strL k c m).length = 32 * m
  | 0 => rfl
  | m + 1 => by rw [strLs, List.length_append, strL_length k c m, tagS_length]; omega
theorem strL_prefix (k : List UInt8) (c : Int) (m : Nat) : ∀ j, (strL k c (m + j)).take (32 * m) = strL k c m
  | 0 => by rw [List.take_of_length_le (by rw [strL_length]; exact Nat.le_refl _)]; rfl
  | j + 1 => by
    rw [show m + (j + 1) = (m + j) + 1 from rfl, strLs, List.take_append_of_le_length (by rw [strL_length]; omega), strL_prefix k c m j]
def strm (k : List UInt8) (c : Int) (n : Nat) : List UInt8 := (strL k c ((n + 31) / 32)).take n
theorem strm_ (k : List UInt8) (c : Int) (n : Nat) : (strL k c ((n + 31) / 32)).take n = strm k c n := rfl
theorem strm_length (k : List UInt8) (c : Int) (n : Nat) : (strm k c n).length = n := by
  unfold strm; rw [List.length_take, strL_length]; omega
theorem strm_take (k : List UInt8) (c : Int) {a n : Nat} (h : a ≤ n) : (strm k c n).take a = strm k c a := by
  unfold strm
  rw [List.take_take, Nat.min_eq_left h]
  have e := strL_prefix k c ((a + 31) / 32) ((n + 31) / 32 - (a + 31) / 32)
  rw [show (a + 31) / 32 + ((n + 31) / 32 - (a + 31) / 32) = (n + 31) / 32 from by omega] at e
  rw [← e, List.take_take, Nat.min_eq_left (by omega)]
def strE (k : List UInt8) (c n : Int) : Int := if ¬ hexC k = 0 then hexC k else if (c < 0 ∨ 1099511627776 < c) ∨ n < 0 ∨ 232 < n then 4 else 0
def strR (k : List UInt8) (c n : Int) : List UInt8 := if ¬ hexC k = 0 then [] else if (c < 0 ∨ 1099511627776 < c) ∨ n < 0 ∨ 232 < n then [] else strm k c n.toNat
theorem strE_ok {k : List UInt8} {c n : Int} (h : strE k c n = 0) : hexC k = 0 ∧ 0 ≤ c ∧ c ≤ 1099511627776 ∧ 0 ≤ n ∧ n ≤ 232 ∧ strR k c n = strm k c n.toNat := by
  unfold strE at h
  by_cases h1 : hexC k = 0
  · rw [if_neg (fun q => q h1)] at h
    by_cases h2 : (c < 0 ∨ 1099511627776 < c) ∨ n < 0 ∨ 232 < n
    · rw [if_pos h2] at h; cases h
    · refine ⟨h1, by omega, by omega, by omega, by omega, ?_⟩
      unfold strR; rw [if_neg (fun q => q h1), if_neg h2]
  · rw [if_pos h1] at h; exact absurd h h1
theorem str_ok {k : List UInt8} {c n : Int} (h : hexC k = 0) (h1 : 0 ≤ c) (h2 : c ≤ 1099511627776) (h3 : 0 ≤ n) (h4 : n ≤ 232) : strE k c n = 0 ∧ strR k c n = strm k c n.toNat := by
  have e : strE k c n = 0 := by unfold strE; rw [if_neg (fun q => q h), if_neg (by omega)]
  exact ⟨e, (strE_ok e).2.2.2.2.2⟩
/-- What two lists differ in. -/
def mixP (a b : List UInt8) : Nat → List UInt8
  | 0 => List.replicate a.length 0
  | j + 1 => (mixP a b j).set j (a.getD j 0 ^^^ b.getD j 0)
theorem mixP0 (a b : List UInt8) : mixP a b 0 = List.replicate a.length 0 := rfl
theorem mixPs (a b : List UInt8) (j : Nat) : mixP a b (j + 1) = (mixP a b j).set j (a.getD j 0 ^^^ b.getD j 0) := rfl
theorem mixP_length (a b : List UInt8) : ∀ j, (mixP a b j).length = a.length
  | 0 => List.length_replicate
  | j + 1 => by rw [mixPs, List.length_set, mixP_length a b j]
theorem mixP_at (a b : List UInt8) (i : Nat) (hi : i < a.length) : ∀ j, (mixP a b j).getD i 0 = if i < j then a.getD i 0 ^^^ b.getD i 0 else 0
  | 0 => by rw [mixP0, List.getD_eq_getElem?_getD, List.getElem?_replicate, if_pos hi]; simp
  | j + 1 => by
    have ih := mixP_at a b i hi j
    rw [mixPs, List.getD_eq_getElem?_getD, List.getElem?_set]
    by_cases e : j = i
    · subst e; rw [if_pos rfl, if_pos (by rw [mixP_length]; exact hi), if_pos (by omega)]; rfl
    · rw [if_neg e, ← List.getD_eq_getElem?_getD, ih]
      by_cases q : i < j
      · rw [if_pos q, if_pos (by omega)]
      · rw [if_neg q, if_neg (by omega)]
def mix (a b : List UInt8) : List UInt8 := mixP a b a.length
theorem mix_ (a b : List UInt8) : mixP a b a.length = mix a b := rfl
theorem mix_length (a b : List UInt8) : (mix a b).length = a.length := mixP_length a b _
theorem mix_at (a b : List UInt8) {i : Nat} (hi : i < a.length) : (mix a b).getD i 0 = a.getD i 0 ^^^ b.getD i 0 := by
  unfold mix; rw [mixP_at a b i hi, if_pos hi]
theorem ext_getD {l m : List UInt8} (h : l.length = m.length) (h2 : ∀ i, i < l.length → l.getD i 0 = m.getD i 0) : l = m := by
  refine List.ext_getElem h (fun i h3 h4 => ?_)
  have := h2 i h3
  rwa [List.getD_eq_getElem?_getD, List.getD_eq_getElem?_getD, List.getElem?_eq_getElem h3, List.getElem?_eq_getElem h4] at this
theorem mix_back (a b : List UInt8) : mix (mix a b) b = a := by
  refine ext_getD (by rw [mix_length, mix_length]) (fun i hi => ?_)
  rw [mix_length, mix_length] at hi
  rw [mix_at _ _ (by rw [mix_length]; exact hi), mix_at _ _ hi, UInt8.xor_assoc, UInt8.xor_self, UInt8.xor_zero]
/-- What a tag is of. -/
def signB (c : Int) (b : List UInt8) : List UInt8 := sealW ++ num8 c ++ b
theorem signB_length (c : Int) (b : List UInt8) : (signB c b).length = b.length + 12 := by
  unfold signB; rw [List.length_append, List.length_append, num8_length]; simp [sealW]; omega
def sealS (k : List UInt8) (c : Int) (b : List UInt8) : List UInt8 := mix b (strm k c b.length) ++ (tagS k (signB c (mix b (strm k c b.length)))).take 16
theorem sealS_length (k : List UInt8) (c : Int) (b : List UInt8) : (sealS k c b).length = b.length + 16 := by
  unfold sealS; rw [List.length_append, mix_length, List.length_take, tagS_length]; omega
def sealE (k : List UInt8) (c : Int) (b : List UInt8) : Int := if 220 < (b.length : Int) then 1 else strE k c b.length
def sealR (k : List UInt8) (c : Int) (b : List UInt8) : List UInt8 := if 220 < (b.length : Int) then [] else if ¬ strE k c b.length = 0 then [] else sealS k c b
theorem seal_ok {k : List UInt8} {c : Int} {b : List UInt8} (h : hexC k = 0) (h1 : 0 ≤ c) (h2 : c ≤ 1099511627776) (h3 : b.length ≤ 220) : sealE k c b = 0 ∧ sealR k c b = sealS k c b := by
  have e := (str_ok (k := k) (c := c) (n := (b.length : Int)) h h1 h2 (by omega) (by omega)).1
  unfold sealE sealR
  rw [if_neg (by omega), if_neg (by omega), if_neg (fun q => q e)]; exact ⟨e, rfl⟩
/-- Does the tag fit? -/
def openB (k : List UInt8) (c : Int) (b : List UInt8) : Bool := decide ((tagS k (signB c (b.take (b.length - 16)))).take 16 = b.drop (b.length - 16))
def openS (k : List UInt8) (c : Int) (b : List UInt8) : List UInt8 := mix (b.take (b.length - 16)) (strm k c (b.length - 16))
def openE (k : List UInt8) (c : Int) (b : List UInt8) : Int :=
  if 220 < (b.length : Int) - 16 then 1 else if ¬ strE k c (max ((b.length : Int) - 16) 0) = 0 then strE k c (max ((b.length : Int) - 16) 0) else if (b.length : Int) - 16 < 0 then 8 else if openB k c b = false then 9 else 0
def openR (k : List UInt8) (c : Int) (b : List UInt8) : List UInt8 := if openE k c b = 0 then openS k c b else []
theorem openR_ok {k b : List UInt8} {c : Int} (h1 : ¬ 220 < (b.length : Int) - 16) (h2 : strE k c (max ((b.length : Int) - 16) 0) = 0) (h3 : ¬ (b.length : Int) - 16 < 0) (h4 : (tagS k (signB c (b.take (b.length - 16)))).take 16 = b.drop (b.length - 16)) : openE k c b = 0 ∧ openR k c b = mix (b.take (b.length - 16)) (strm k c (b.length - 16)) := by
  have e0 : openE k c b = 0 := by
    unfold openE openB
    rw [if_neg h1, if_neg (fun q => q h2), if_neg h3, decide_eq_true h4]; rfl
  refine ⟨e0, ?_⟩
  unfold openR; rw [if_pos e0]; rfl
theorem open_seal {k : List UInt8} {c : Int} {b : List UInt8} (h : hexC k = 0) (h1 : 0 ≤ c) (h2 : c ≤ 1099511627776) (h3 : b.length ≤ 220) : openE k c (sealS k c b) = 0 ∧ openR k c (sealS k c b) = b := by
  have l := sealS_length k c b
  have lm := mix_length b (strm k c b.length)
  have e1 : (sealS k c b).take b.length = mix b (strm k c b.length) := by unfold sealS; rw [List.take_append_of_le_length (by omega), List.take_of_length_le (by omega)]
  have e2 : (sealS k c b).drop b.length = (tagS k (signB c (mix b (strm k c b.length)))).take 16 := by
    unfold sealS; rw [List.drop_append_of_le_length (by omega), List.drop_of_length_le (by omega), List.nil_append]
  have t := (str_ok (k := k) (c := c) (n := max (((sealS k c b).length : Int) - 16) 0) h h1 h2 (by omega) (by omega)).1
  have e3 : (sealS k c b).length - 16 = b.length := by omega
  have e0 : openE k c (sealS k c b) = 0 := by
    unfold openE openB
    rw [if_neg (by omega), if_neg (fun q => q t), if_neg (by omega), e3, e1, e2, decide_eq_true rfl]; rfl
  refine ⟨e0, ?_⟩
  unfold openR openS
  rw [if_pos e0, e3, e1, mix_back]
attribute [irreducible] numP strL mixP num8 strm mix
end Go.Proofs.YtcebndkiagbddaaDoor
