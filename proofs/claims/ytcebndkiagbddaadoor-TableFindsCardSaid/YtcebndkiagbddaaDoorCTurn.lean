/- The laws' own helpers: contracts. -/
import Derived.Test.YtcebndkiagbddaaDoorTab
import Derived.Test.YtcebndkiagbddaaDoorPickF
namespace Go.Proofs.YtcebndkiagbddaaDoor
open Go.RowKit
set_option linter.unusedVariables false
set_option linter.unusedSimpArgs false

set_option maxRecDepth 100000 in
set_option maxHeartbeats 4000000 in
theorem cf_picked {n m : Int} (hq1 : -9223372036854775808 ≤ n) (hq2 : n ≤ 9223372036854775807) (hm : 0 < m) : Cf Tryd.prog 10 [] [.i n, .i m] [] (.i (pk n m)) := by
  refine Cf.introR tabT {} D0 (by kernel_rfl) tab_ok Tryd.func10 Tryd.ntmps10 rfl rfl (D0_ok) (by kernel_rfl) ?_
  refine ⟨fun h1 => ?_, fun h1 => ?_⟩
  · skip
    have c1 := h1
    (simp only [bsX] at c1)
    repeat (refine Ob.mk ?_ ?_; (focus (first | omega | (simp only [pk, h1, cond_true, cond_false, Bool.not_true, Bool.not_false, Bool.and_true, Bool.true_and, Bool.and_false, Bool.false_and, Bool.or_true, Bool.true_or, Bool.or_false, Bool.false_or, Int.reduceToNat, UInt8.reduceOfNat]; done))))
    trivial
  · skip
    have c1 := h1
    (simp only [bsX] at c1)
    repeat (refine Ob.mk ?_ ?_; (focus (first | omega | (simp only [pk, h1, cond_true, cond_false, Bool.not_true, Bool.not_false, Bool.and_true, Bool.true_and, Bool.and_false, Bool.false_and, Bool.or_true, Bool.true_or, Bool.or_false, Bool.false_or, Int.reduceToNat, UInt8.reduceOfNat]; done))))
    trivial
end Go.Proofs.YtcebndkiagbddaaDoor
