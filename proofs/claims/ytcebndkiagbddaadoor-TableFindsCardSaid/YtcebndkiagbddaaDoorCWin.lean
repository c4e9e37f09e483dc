/- package window: contracts. -/
import Derived.Test.YtcebndkiagbddaaDoorTab
import Derived.Test.YtcebndkiagbddaaDoorConv
import Derived.Test.YtcebndkiagbddaaDoorWinG
namespace Go.Proofs.YtcebndkiagbddaaDoor
open Go.RowKit
set_option linter.unusedVariables false
set_option linter.unusedSimpArgs false

set_option maxRecDepth 100000 in
set_option maxHeartbeats 4000000 in
theorem cf_wnCheck {s : Bool} {l : Int} {b : UInt64} : Cf Tryd.prog 60 [] [.agg [.b s, .i l, .u64 b]] [] (.i (wnCk s l b)) := by
  refine Cf.introR tabT {} D0 (by kernel_rfl) tab_ok Tryd.func60 Tryd.ntmps60 rfl rfl (D0_ok) (by kernel_rfl) ?_
  refine ⟨fun h1 => ?_, fun h1 => ?_⟩
  · skip
    have c1 := h1
    (simp only [bsX] at c1)
    refine ⟨fun h2 => ?_, fun h2 => ?_⟩
    · skip
      (simp only [Int.reduceToNat, UInt8.reduceOfNat] at h2)
      have c2 := h2
      (simp only [bsX] at c2)
      repeat (refine Ob.mk ?_ ?_; focus ((exact wnCk_14 c1 c2)))
      trivial
    · skip
      (simp only [Int.reduceToNat, UInt8.reduceOfNat] at h2)
      have c2 := h2
      (simp only [bsX] at c2)
      repeat (refine Ob.mk ?_ ?_; (focus (((simp only [wnCk, h1, h2, Bool.cond_decide, Bool.cond_not, cond_true, cond_false, Bool.not_true, Bool.not_false, Bool.and_true, Bool.true_and, Bool.and_false, Bool.false_and, Bool.or_true, Bool.true_or, Bool.or_false, Bool.false_or]; simp (disch := omega) only [if_pos, if_neg]; done)))))
      trivial
  · skip
    have c1 := h1
    (simp only [bsX] at c1)
    repeat (refine Ob.mk ?_ ?_; focus (first | (exact fun hg => beq_f hg) | (exact fun hg => hg)))
    refine ⟨fun h3 => ?_, fun h3 => ?_⟩
    · skip
      have c3 := h3
      (simp only [bsX] at c3)
      repeat (refine Ob.mk ?_ ?_; (focus (((simp_all [wnCk]; done)))))
      trivial
    · skip
      have c3 := h3
      (simp only [bsX] at c3)
      repeat (refine Ob.mk ?_ ?_; (focus (first | omega | (exact fun hg => beq_f hg) | (exact fun hg => hg) | (intro hg; ((intro hq; exact and_i hg (beq_t hq)))))))
      refine ⟨fun h4 => ?_, fun h4 => ?_⟩
      · skip
        (simp only [Int.reduceToNat, UInt8.reduceOfNat] at h4)
        have c4 := h4
        (simp only [bsX] at c4)
        repeat (refine Ob.mk ?_ ?_; (focus (((simp_all [wnCk]; done)))))
        trivial
      · skip
        (simp only [Int.reduceToNat, UInt8.reduceOfNat] at h4)
        have c4 := h4
        (simp only [bsX] at c4)
        repeat (refine Ob.mk ?_ ?_; focus ((exact wnCk_0 c1 c3 c4)))
        trivial
end Go.Proofs.YtcebndkiagbddaaDoor
