/- PairMarks: the walk of the statement's function. -/
import Derived.Test.YtpcagbfnddgjpaaCPair
import Derived.Test.YtpcagbfnddgjpaaCKey
namespace Go.Proofs.Ytpcagbfnddgjpaa
open Go.RowKit
set_option linter.unusedVariables false
set_option linter.unusedSimpArgs false

set_option maxRecDepth 100000 in
set_option maxHeartbeats 4000000 in
theorem cf_PairMarks {a n : Int} (ha : IntIn a) (hn : IntIn n) : Cf Try.prog 5 [] [.i a, .i n] [] (.b true) := by
  have hK := cf_Key ha
  have hk := keyS_ok a
  have hM := mark_cf hk
  have n1 := pk_ge n (m := 4294967296) (by decide)
  have n2 := pk_lt n (m := 4294967296) (by decide)
  have hN := non_cf (n := pk n 4294967296) hk n1 (by omega)
  have l1 := markS_length (keyS a)
  have l2 := nonS_length (keyS a) (pk n 4294967296)
  refine Cf.introR tabT {} D0 (by kernel_rfl) tab_ok Try.func5 Try.ntmps5 rfl rfl (D0_ok) (by kernel_rfl) ?_
  refine ⟨_, _, _, _, (@cf_picked ?_ ?_ ?_ ?_ ?_), ?_⟩
  rotate_left 5
  repeat (refine Ob.mk ?_ ?_; focus ((exact Eq.refl _)))
  refine ⟨_, _, _, _, hK, ?_⟩
  repeat (refine Ob.mk ?_ ?_; focus ((exact Eq.refl _)))
  refine ⟨_, _, _, _, hM, ?_⟩
  repeat (refine Ob.mk ?_ ?_; focus ((exact Eq.refl _)))
  refine ⟨_, _, _, _, hK, ?_⟩
  repeat (refine Ob.mk ?_ ?_; focus ((exact Eq.refl _)))
  refine ⟨_, _, _, _, hM, ?_⟩
  repeat (refine Ob.mk ?_ ?_; focus ((exact Eq.refl _)))
  refine ⟨_, _, _, _, hK, ?_⟩
  repeat (refine Ob.mk ?_ ?_; focus ((exact Eq.refl _)))
  refine ⟨_, _, _, _, hN, ?_⟩
  repeat (refine Ob.mk ?_ ?_; focus ((exact Eq.refl _)))
  refine ⟨_, _, _, _, hK, ?_⟩
  repeat (refine Ob.mk ?_ ?_; focus ((exact Eq.refl _)))
  refine ⟨_, _, _, _, hN, ?_⟩
  repeat (refine Ob.mk ?_ ?_; (focus (first | (exact Eq.refl _) | (intro _; exact Eq.refl _) | (exact fun hg => beq_t hg) | (exact fun hg => hg) | (simp [l1, l2]; done))))
  trivial
  all_goals (omega)
end Go.Proofs.Ytpcagbfnddgjpaa
