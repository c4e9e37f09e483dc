/- Plain facts about networks: what containment is, and the join. No program in sight. -/
import Derived.Test.YtcebndkiagbddaaDoorMath
namespace Go.Proofs.YtcebndkiagbddaaDoor

theorem pholds_iff {a : Nat} {n : Int} {b : Nat} {m : Int} : pholds a n b m = true ↔ pvalid b m ∧ n ≤ m ∧ pvalid a n ∧ pcut b n.toNat = a := by
  unfold pholds phas; simp
theorem pholds_refl {a : Nat} {n : Int} (h : pvalid a n) : pholds a n a n = true :=
  pholds_iff.2 ⟨h, Int.le_refl _, h, pcut_of_mod h.2.2⟩
theorem pholds_trans {a b c : Nat} {n m k : Int} (h1 : pholds a n b m = true) (h2 : pholds b m c k = true) : pholds a n c k = true := by
  obtain ⟨_, a2, a3, a4⟩ := pholds_iff.1 h1
  obtain ⟨b1, b2, _, b4⟩ := pholds_iff.1 h2
  refine pholds_iff.2 ⟨b1, Int.le_trans a2 b2, a3, ?_⟩
  rw [← a4, ← b4, pcut_pcut c (by have := a3.1; omega)]
theorem pholds_antisymm {a b : Nat} {n m : Int} (h1 : pholds a n b m = true) (h2 : pholds b m a n = true) : a = b ∧ n = m := by
  obtain ⟨_, a2, a3, a4⟩ := pholds_iff.1 h1
  obtain ⟨_, b2, b3, b4⟩ := pholds_iff.1 h2
  have e : n = m := Int.le_antisymm a2 b2
  subst e
  exact ⟨a4.symm.trans (pcut_of_mod b3.2.2), rfl⟩
theorem pholds_some {a b : Nat} {n m : Int} (hb : pvalid b m) (h1 : pholds a n b m = false) (h2 : pholds b m a n = false) : phas a n b = false := by
  unfold phas
  refine decide_eq_false fun ⟨hv, hc⟩ => ?_
  by_cases h : n ≤ m
  · rw [pholds_iff.2 ⟨hb, h, hv, hc⟩] at h1; cases h1
  · have : pholds b m a n = true := pholds_iff.2 ⟨hv, by omega, hb, by
      rw [← hc, pcut_pcut b (by have := hv.1; omega)]; exact pcut_of_mod hb.2.2⟩
    rw [this] at h2; cases h2
theorem pcut_valid (a k : Nat) (h : k ≤ 32) : pvalid (pcut a k) (k : Int) := ⟨by omega, by omega, by rw [Int.toNat_natCast]; exact pcut_mod _ _⟩
theorem phas_cut (a k : Nat) (h : k ≤ 32) : phas (pcut a k) (k : Int) a = true := by
  unfold phas; exact decide_eq_true ⟨pcut_valid a k h, by rw [Int.toNat_natCast]⟩
theorem pholds_cut (a j k : Nat) (h : j ≤ k) (hk : k ≤ 32) : pholds (pcut a j) (j : Int) (pcut a k) (k : Int) = true :=
  pholds_iff.2 ⟨pcut_valid a k hk, by omega, pcut_valid a j (by omega), by rw [Int.toNat_natCast, pcut_pcut a h]⟩
end Go.Proofs.YtcebndkiagbddaaDoor
