/- PairBoth: the walk of the statement's function. -/
import Derived.Test.YtpcagbfnddgjpaaCPairS
import Derived.Test.YtpcagbfnddgjpaaCKey
namespace Go.Proofs.Ytpcagbfnddgjpaa
open Go.RowKit
set_option linter.unusedVariables false
set_option linter.unusedSimpArgs false

set_option maxRecDepth 100000 in
set_option maxHeartbeats 4000000 in
theorem cf_PairBoth {a b c : Int} {sh : Bool} (ha : IntIn a) (hb : IntIn b) (hc : IntIn c) : Cf Try.prog 6 [] [.i a, .i b, .i c, .b sh] [] (.b true) := by
  have kA := cf_Key ha
  have kB := cf_Key hb
  have kC := cf_Key hc
  have oA := keyS_ok a
  have oB := keyS_ok b
  have oC := keyS_ok c
  refine Cf.introR tabT {} D0 (by kernel_rfl) tab_ok Try.func6 Try.ntmps6 rfl rfl (D0_ok) (by kernel_rfl) ?_
  refine ⟨fun h1 => ?_, fun h1 => ?_⟩
  · skip
    have c1 := h1
    have s1 := cf_Secret oA oB (c := keyS c) (.inr oC); have s2 := cf_Secret oB oA (c := keyS c) (.inr oC)
    have e1 := secS_comm (keyS c) (a := keyS a) (b := keyS b); have e2 := secS_length (keyS b) (keyS a) (keyS c)
    refine ⟨_, _, _, _, kC, ?_⟩
    repeat (refine Ob.mk ?_ ?_; focus ((exact Eq.refl _)))
    refine ⟨_, _, _, _, kA, ?_⟩
    repeat (refine Ob.mk ?_ ?_; focus ((exact Eq.refl _)))
    refine ⟨_, _, _, _, kB, ?_⟩
    repeat (refine Ob.mk ?_ ?_; focus ((exact Eq.refl _)))
    refine ⟨_, _, _, _, s1, ?_⟩
    repeat (refine Ob.mk ?_ ?_; focus ((exact Eq.refl _)))
    refine ⟨_, _, _, _, kB, ?_⟩
    repeat (refine Ob.mk ?_ ?_; focus ((exact Eq.refl _)))
    refine ⟨_, _, _, _, kA, ?_⟩
    repeat (refine Ob.mk ?_ ?_; focus ((exact Eq.refl _)))
    refine ⟨_, _, _, _, s2, ?_⟩
    repeat (refine Ob.mk ?_ ?_; focus ((exact Eq.refl _)))
    refine ⟨_, _, _, _, kA, ?_⟩
    repeat (refine Ob.mk ?_ ?_; focus ((exact Eq.refl _)))
    refine ⟨_, _, _, _, kB, ?_⟩
    repeat (refine Ob.mk ?_ ?_; focus ((exact Eq.refl _)))
    refine ⟨fun h2 => ?_, fun h2 => ?_⟩
    · skip
      have c2 := h2
      (simp only [Bool.not_eq_true', Bool.not_eq_false', Bool.not_true, Bool.not_false, Bool.and_eq_true, Bool.or_eq_true, Bool.and_eq_false_iff, Bool.or_eq_false_iff, Bool.not_not, beq_true, beq_false, decide_eq_true_eq, decide_eq_false_iff_not] at c2)
      have dd := c2; have d2 := dd.symm; clear e1
      repeat (refine Ob.mk ?_ ?_; (focus (first | (exact fun hg => beq_t hg) | (exact fun hg => hg) | (rw [if_pos dd, if_pos d2]; exact Eq.refl _))))
      trivial
    · skip
      have c2 := h2
      (simp only [Bool.not_eq_true', Bool.not_eq_false', Bool.not_true, Bool.not_false, Bool.and_eq_true, Bool.or_eq_true, Bool.and_eq_false_iff, Bool.or_eq_false_iff, Bool.not_not, beq_true, beq_false, decide_eq_true_eq, decide_eq_false_iff_not] at c2)
      have dd := c2; have d2 : ¬ keyS b = keyS a := fun h => dd h.symm
      have f1 := e1 dd; clear e1
      repeat (refine Ob.mk ?_ ?_; (focus (first | (exact fun hg => beq_t hg) | (exact fun hg => hg) | (rw [f1]; simp [dd, d2, e2]; done))))
      trivial
  · skip
    have c1 := h1
    have s1 := cf_Secret oA oB (c := []) (.inl rfl); have s2 := cf_Secret oB oA (c := []) (.inl rfl)
    have e1 := secS_comm [] (a := keyS a) (b := keyS b); have e2 := secS_length (keyS b) (keyS a) []
    refine ⟨_, _, _, _, kA, ?_⟩
    repeat (refine Ob.mk ?_ ?_; focus ((exact Eq.refl _)))
    refine ⟨_, _, _, _, kB, ?_⟩
    repeat (refine Ob.mk ?_ ?_; focus ((exact Eq.refl _)))
    refine ⟨_, _, _, _, s1, ?_⟩
    repeat (refine Ob.mk ?_ ?_; focus ((exact Eq.refl _)))
    refine ⟨_, _, _, _, kB, ?_⟩
    repeat (refine Ob.mk ?_ ?_; focus ((exact Eq.refl _)))
    refine ⟨_, _, _, _, kA, ?_⟩
    repeat (refine Ob.mk ?_ ?_; focus ((exact Eq.refl _)))
    refine ⟨_, _, _, _, s2, ?_⟩
    repeat (refine Ob.mk ?_ ?_; focus ((exact Eq.refl _)))
    refine ⟨_, _, _, _, kA, ?_⟩
    repeat (refine Ob.mk ?_ ?_; focus ((exact Eq.refl _)))
    refine ⟨_, _, _, _, kB, ?_⟩
    repeat (refine Ob.mk ?_ ?_; focus ((exact Eq.refl _)))
    refine ⟨fun h3 => ?_, fun h3 => ?_⟩
    · skip
      have c3 := h3
      (simp only [Bool.not_eq_true', Bool.not_eq_false', Bool.not_true, Bool.not_false, Bool.and_eq_true, Bool.or_eq_true, Bool.and_eq_false_iff, Bool.or_eq_false_iff, Bool.not_not, beq_true, beq_false, decide_eq_true_eq, decide_eq_false_iff_not] at c3)
      have dd := c3; have d2 := dd.symm; clear e1
      repeat (refine Ob.mk ?_ ?_; (focus (first | (exact fun hg => beq_t hg) | (exact fun hg => hg) | (rw [if_pos dd, if_pos d2]; exact Eq.refl _))))
      trivial
    · skip
      have c3 := h3
      (simp only [Bool.not_eq_true', Bool.not_eq_false', Bool.not_true, Bool.not_false, Bool.and_eq_true, Bool.or_eq_true, Bool.and_eq_false_iff, Bool.or_eq_false_iff, Bool.not_not, beq_true, beq_false, decide_eq_true_eq, decide_eq_false_iff_not] at c3)
      have dd := c3; have d2 : ¬ keyS b = keyS a := fun h => dd h.symm
      have f1 := e1 dd; clear e1
      repeat (refine Ob.mk ?_ ?_; (focus (first | (exact fun hg => beq_t hg) | (exact fun hg => hg) | (rw [f1]; simp [dd, d2, e2]; done))))
      trivial
end Go.Proofs.Ytpcagbfnddgjpaa
