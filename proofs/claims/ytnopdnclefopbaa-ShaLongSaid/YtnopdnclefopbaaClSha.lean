/- ShaLong: the walk of the statement's function. -/
import Derived.Test.YtnopdnclefopbaaCSha
import Derived.Test.YtnopdnclefopbaaCHex
import Derived.Test.YtnopdnclefopbaaShaE
namespace Go.Proofs.Ytnopdnclefopbaa
open Go.RowKit
set_option linter.unusedVariables false
set_option linter.unusedSimpArgs false

theorem sum_ok {l : List UInt8} (hl : l.length ≤ 1000) : Cf Try.prog 42 [] [.bs l] [] (.tup [.bs (shaSum l), .i 0]) := by
  have k := cf_Sum (l := l) (by omega)
  rw [decide_eq_false (by omega : ¬ 1000 < (l.length : Int))] at k
  exact k
set_option maxRecDepth 100000 in
set_option maxHeartbeats 4000000 in
theorem cf_ShaLong {l : List UInt8} : Cf Try.prog 15 [] [.bs l] [] (.b true) := by
  have k1 := sum_ok (l := l.take (min (l.length : Int) 900).toNat) (by rw [List.length_take]; omega)
  have k2 := sum_ok (l := []) (by decide)
  have k3 := sum_ok (l := [97, 98, 99]) (by decide)
  have e2 := hex_empty
  have e3 := hex_abc
  have l1 := shaSum_length (l.take (min (l.length : Int) 900).toNat)
  have l2 := shaSum_length []
  have l3 := shaSum_length [97, 98, 99]
  refine Cf.introR tabT {} D0 (by kernel_rfl) tab_ok Try.func15 Try.ntmps15 rfl rfl (D0_ok) (by kernel_rfl) ?_
  repeat (refine Ob.mk ?_ ?_; focus (omega))
  refine ⟨_, _, _, _, k1, ?_⟩
  repeat (refine Ob.mk ?_ ?_; focus ((exact Eq.refl _)))
  refine ⟨_, _, _, _, k2, ?_⟩
  repeat (refine Ob.mk ?_ ?_; focus (first | (exact Eq.refl _) | omega))
  refine ⟨_, _, _, _, k3, ?_⟩
  repeat (refine Ob.mk ?_ ?_; (focus (first | (exact Eq.refl _) | (intro _; exact Eq.refl _))))
  refine gx2 (@cf_hexText ?_ ?_) (fun hk => ⟨fun _ => hk, ?_⟩)
  rotate_left 2
  repeat (refine Ob.mk ?_ ?_; (focus (first | (intro _; exact Eq.refl _) | (exact fun hg => beq_t hg) | (exact fun hg => hg))))
  refine gx2 (@cf_hexText ?_ ?_) (fun hk => ⟨fun _ => hk, ?_⟩)
  rotate_left 2
  repeat (refine Ob.mk ?_ ?_; (focus (first | (intro _; exact Eq.refl _) | (exact fun hg => beq_t hg) | (exact fun hg => hg) | (rw [e2, e3, l1]; exact Eq.refl _))))
  trivial
  all_goals (first | (rw [l2]; decide) | (rw [l3]; decide))
end Go.Proofs.Ytnopdnclefopbaa
