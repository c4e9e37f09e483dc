/- What package window computes, in plain words. It names no function of the program. -/
import Derived.Test.YtcebndkiagbddaaDoorFA
import Derived.Test.YtcebndkiagbddaaDoorFC
namespace Go.Proofs.YtcebndkiagbddaaDoor
set_option linter.unusedVariables false
set_option linter.unusedSimpArgs false

abbrev W0 : UInt64 := UInt64.ofNat 0
abbrev W1 : UInt64 := UInt64.ofNat 1
/-- What came: is there something, the last one, and the bits. -/
def wnCk (s : Bool) (l : Int) (b : UInt64) : Int :=
  if s = false then (if s = false ∧ l = 0 ∧ b = UInt64.ofNat 0 then 0 else 14)
  else if l < 0 ∨ 1099511627776 < l then 4 else if b &&& UInt64.ofNat 1 = UInt64.ofNat 0 ∨ (l < 63 ∧ ¬ shr64 b (l + 1).toNat = UInt64.ofNat 0) then 14 else 0
def wnHasE (s : Bool) (l : Int) (b : UInt64) (n : Int) : Int := if ¬ wnCk s l b = 0 then wnCk s l b else if n < 0 ∨ 1099511627776 < n then 4 else 0
def wnHas (s : Bool) (l : Int) (b : UInt64) (n : Int) : Bool :=
  if ¬ wnCk s l b = 0 then false else if n < 0 ∨ 1099511627776 < n then false else if s = false ∨ l < n then false else if 64 ≤ l - n then true else decide (shr64 b (l - n).toNat &&& UInt64.ofNat 1 = UInt64.ofNat 1)
def wnTkE (s : Bool) (l : Int) (b : UInt64) (n : Int) : Int := if ¬ wnHasE s l b n = 0 then wnHasE s l b n else if wnHas s l b n = true then 10 else 0
def wnTkS (s : Bool) (l : Int) (b : UInt64) (n : Int) : Bool := if ¬ wnHasE s l b n = 0 then false else if wnHas s l b n = true then false else true
def wnTkL (s : Bool) (l : Int) (b : UInt64) (n : Int) : Int := if ¬ wnHasE s l b n = 0 then 0 else if wnHas s l b n = true then 0 else if s = false then n else if n ≤ l then l else n
def wnTkB (s : Bool) (l : Int) (b : UInt64) (n : Int) : UInt64 :=
  if ¬ wnHasE s l b n = 0 then UInt64.ofNat 0 else if wnHas s l b n = true then UInt64.ofNat 0 else if s = false then UInt64.ofNat 1 else if n ≤ l then b ||| shl64 (UInt64.ofNat 1) (l - n).toNat else shl64 b (min (n - l) 64).toNat ||| UInt64.ofNat 1
theorem wnCk_14 {s : Bool} {l : Int} {b : UInt64} (h : s = false) (h2 : s = true ∨ ¬ l = 0 ∨ ¬ b = UInt64.ofNat 0) : 14 = wnCk s l b := by
  unfold wnCk; rw [if_pos h, if_neg]
  rintro ⟨a, c, d⟩
  rcases h2 with h2 | h2 | h2
  · rw [h] at h2; cases h2
  · exact h2 c
  · exact h2 d
theorem wnCk_0 {s : Bool} {l : Int} {b : UInt64} (h : s = true) (h2 : ¬ l < 0 ∧ ¬ 1099511627776 < l) (h3 : ¬ b &&& UInt64.ofNat 1 = UInt64.ofNat 0 ∧ (¬ l < 63 ∨ shr64 b (l + 1).toNat = UInt64.ofNat 0)) : 0 = wnCk s l b := by
  unfold wnCk; rw [if_neg (by rw [h]; decide), if_neg (by omega), if_neg]
  rintro (a | ⟨a, c⟩)
  · exact h3.1 a
  · exact h3.2.elim (fun q => q a) (fun q => c q)
theorem wnHas_is {s : Bool} {l n : Int} {b : UInt64} (h : wnCk s l b = 0) (h2 : ¬ n < 0 ∧ ¬ 1099511627776 < n) (h3 : s = true ∧ ¬ l < n) (h4 : ¬ 64 ≤ l - n) : decide (shr64 b (l - n).toNat &&& UInt64.ofNat 1 = UInt64.ofNat 1) = wnHas s l b n := by
  unfold wnHas
  rw [if_neg (fun q => q h), if_neg (by omega), if_neg (by rintro (a | a); rw [h3.1] at a; cases a; exact h3.2 a), if_neg h4]
theorem wnHasE_ok {s : Bool} {l : Int} {b : UInt64} {n : Int} (h : wnHasE s l b n = 0) : wnCk s l b = 0 ∧ 0 ≤ n ∧ n ≤ 1099511627776 := by
  unfold wnHasE at h
  by_cases h1 : wnCk s l b = 0
  · rw [if_neg (fun q => q h1)] at h
    by_cases h2 : n < 0 ∨ 1099511627776 < n
    · rw [if_pos h2] at h; cases h
    · exact ⟨h1, by omega, by omega⟩
  · rw [if_pos h1] at h; exact absurd h h1
theorem wnCk_l {s : Bool} {l : Int} {b : UInt64} (h : wnCk s l b = 0) : 0 ≤ l ∧ l ≤ 1099511627776 := by
  unfold wnCk at h
  by_cases h1 : s = false
  · rw [if_pos h1] at h
    by_cases h2 : s = false ∧ l = 0 ∧ b = UInt64.ofNat 0
    · omega
    · rw [if_neg h2] at h; cases h
  · rw [if_neg h1] at h
    by_cases h2 : l < 0 ∨ 1099511627776 < l
    · rw [if_pos h2] at h; cases h
    · omega
end Go.Proofs.YtcebndkiagbddaaDoor
