/- Tags: what the functions of package mac compute, in plain words. It names no function of the program. -/
import Derived.Test.YtcebndkiagbddaaDoorShaF
import Derived.Test.YtcebndkiagbddaaDoorHexF
namespace Go.Proofs.YtcebndkiagbddaaDoor
set_option linter.unusedVariables false
set_option linter.unusedSimpArgs false

/-- 64 bytes of a key. -/
def pad64 (k : List UInt8) : List UInt8 := k.take 64 ++ (List.replicate 64 0).drop (k.take 64).length
def kxS (p : List UInt8) (y : UInt8) (j : Nat) : List UInt8 := p.set j (p.getD j 0 ^^^ y)
def kx (k : List UInt8) (y : UInt8) : Nat → List UInt8
  | 0 => pad64 k
  | j + 1 => kxS (kx k y j) y j
theorem kx0 (k : List UInt8) (y : UInt8) : kx k y 0 = pad64 k := rfl
theorem kxs (k : List UInt8) (y : UInt8) (j : Nat) : kx k y (j + 1) = kxS (kx k y j) y j := rfl
theorem pad64_length (k : List UInt8) : (pad64 k).length = 64 := by
  unfold pad64; simp only [List.length_append, List.length_drop, List.length_replicate, List.length_take]; omega
theorem kx_length (k : List UInt8) (y : UInt8) : ∀ j, (kx k y j).length = 64
  | 0 => pad64_length k
  | j + 1 => by simp [kx, kxS, kx_length k y j]
def keyed (k : List UInt8) (y : UInt8) : List UInt8 := kx k y 64
theorem keyed_ (k : List UInt8) (y : UInt8) : kx k y 64 = keyed k y := rfl
theorem keyed_length (k : List UInt8) (y : UInt8) : (keyed k y).length = 64 := kx_length k y 64
def tagS (k b : List UInt8) : List UInt8 := shaSum (keyed (hexB k) 92 ++ shaSum (keyed (hexB k) 54 ++ b))
theorem tagS_length (k b : List UInt8) : (tagS k b).length = 32 := shaSum_length _
theorem tagS_ (k b : List UInt8) : shaSum (keyed (hexB k) 92 ++ shaSum (keyed (hexB k) 54 ++ b)) = tagS k b := rfl
def tagE (k b : List UInt8) : Int := if ¬ hexC k = 0 then hexC k else if 936 < (b.length : Int) then 1 else 0
def tagR (k b : List UInt8) : List UInt8 := if ¬ hexC k = 0 then [] else if 936 < (b.length : Int) then [] else tagS k b
theorem tag_ok {k b : List UInt8} (h : hexC k = 0) (h2 : b.length ≤ 936) : tagE k b = 0 ∧ tagR k b = tagS k b := by
  unfold tagE tagR
  rw [if_neg (by omega), if_neg (by omega), if_neg (by omega), if_neg (by omega)]
  exact ⟨rfl, rfl⟩
theorem tagR_ok {k b : List UInt8} (h : tagE k b = 0) : tagR k b = tagS k b ∧ hexC k = 0 := by
  unfold tagE at h
  unfold tagR
  by_cases h1 : hexC k = 0
  · rw [if_neg (by omega)] at h ⊢
    split at h
    · cases h
    · next h2 => rw [if_neg h2]; exact ⟨rfl, h1⟩
  · rw [if_pos h1] at h; exact absurd h h1
def keyW : List UInt8 := [107, 101, 121, 32]
def derS (k l : List UInt8) : List UInt8 := hexText (tagS k (keyW ++ l))
def derE (k l : List UInt8) : Int := tagE k (keyW ++ l)
def derR (k l : List UInt8) : List UInt8 := if ¬ tagE k (keyW ++ l) = 0 then [] else derS k l
theorem der_ok {k l : List UInt8} (h : hexC k = 0) (h2 : l.length ≤ 932) : derE k l = 0 ∧ derR k l = derS k l := by
  have e := (tag_ok (k := k) (b := keyW ++ l) h (by simp [keyW]; omega)).1
  unfold derE derR
  rw [if_neg (by omega)]
  exact ⟨e, rfl⟩
theorem derS_key (k l : List UInt8) : hexC (derS k l) = 0 := hexText_key _ (tagS_length _ _)
theorem derS_length (k l : List UInt8) : (derS k l).length = 64 := key_len (derS_key k l)
def rightB (k b t : List UInt8) : Bool := if ¬ tagE k b = 0 then false else decide ((tagS k b).take 16 = t)
attribute [irreducible] kx keyed tagS derS
end Go.Proofs.YtcebndkiagbddaaDoor
