/- Endpoints that are used: plain facts and a contract. -/
import Derived.Test.YtcebndkiagbddaaDoorBatchF
import Derived.Test.YtcebndkiagbddaaDoorCKey
namespace Go.Proofs.YtcebndkiagbddaaDoor
open Go.RowKit
set_option linter.unusedVariables false
set_option linter.unusedSimpArgs false

def endL : List (List UInt8) := [[], [49, 46, 50, 46, 51, 46, 52, 58, 53], [49, 48, 46, 48, 46, 48, 46, 49, 58, 49, 48, 48, 48], [49, 48, 46, 48, 46, 48, 46, 50, 58, 50, 48, 48, 48], [50, 53, 53, 46, 48, 46, 48, 46, 49, 58, 54, 53, 53, 51, 53]]
theorem end_ok : ∀ j : Fin 5, j.val ≠ 0 → endE (endL.getD j.val []) = 0 := by decide +kernel
theorem key_zs : ∀ j, j < 8 → keyN j ≠ zs64 := by decide +kernel
theorem keyS_zs (n : Int) : keyS n ≠ zs64 := by obtain ⟨j, h, e, _⟩ := key_at n; rw [e]; exact key_zs j h
set_option maxRecDepth 100000 in
set_option maxHeartbeats 4000000 in
theorem cf_kends  : Cf Tryd.prog 23 [] [] [] (.lz 5 1 (fun i _ => .s (endL.getD i []))) := by
  refine Cf.introR tabT {} D0 (by kernel_rfl) tab_ok Tryd.func23 Tryd.ntmps23 rfl rfl (D0_ok) (by kernel_rfl) ?_
  repeat (refine Ob.mk ?_ ?_; (focus (first | (intro i hi j hj; (obtain rfl : j = 0 := by omega); (have hq : i = 0 ∨ i = 1 ∨ i = 2 ∨ i = 3 ∨ i = 4 := by omega); rcases hq with rfl | rfl | rfl | rfl | rfl <;> exact Eq.refl _) | (exact Eq.refl _))))
  trivial
end Go.Proofs.YtcebndkiagbddaaDoor
