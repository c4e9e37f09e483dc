/- SealBack, SealFlows: the walks of the statements' functions. -/
import Derived.Test.YtpcagbfnddgjpaaCSeal
import Derived.Test.YtpcagbfnddgjpaaCKey
namespace Go.Proofs.Ytpcagbfnddgjpaa
open Go.RowKit
set_option linter.unusedVariables false
set_option linter.unusedSimpArgs false

set_option maxRecDepth 100000 in
set_option maxHeartbeats 4000000 in
theorem cf_SealBack {n c : Int} {b : List UInt8} (hn : IntIn n) (hc : IntIn c) : Cf Try.prog 8 [] [.i n, .i c, .bs b] [] (.b true) := by
  have hK := cf_Key hn
  have hk := keyS_ok n
  have c1 := pk_ge c (m := 1099511627777) (by decide)
  have c2 := pk_lt c (m := 1099511627777) (by decide)
  have hb : (b.take (min (b.length : Int) 200).toNat).length ≤ 220 := by rw [List.length_take]; omega
  have hS := seal_cf hk c1 (by omega) hb
  have hO := open_cf hk c1 (by omega) hb
  have l := sealS_length (keyS n) (pk c 1099511627777) (b.take (min (b.length : Int) 200).toNat)
  refine Cf.introR tabT {} D0 (by kernel_rfl) tab_ok Try.func8 Try.ntmps8 rfl rfl (D0_ok) (by kernel_rfl) ?_
  repeat (refine Ob.mk ?_ ?_; focus (omega))
  refine ⟨_, _, _, _, (@cf_picked ?_ ?_ ?_ ?_ ?_), ?_⟩
  rotate_left 5
  repeat (refine Ob.mk ?_ ?_; focus ((exact Eq.refl _)))
  refine ⟨_, _, _, _, hK, ?_⟩
  repeat (refine Ob.mk ?_ ?_; focus ((exact Eq.refl _)))
  refine ⟨_, _, _, _, hS, ?_⟩
  repeat (refine Ob.mk ?_ ?_; focus ((exact Eq.refl _)))
  refine ⟨_, _, _, _, hK, ?_⟩
  repeat (refine Ob.mk ?_ ?_; focus ((exact Eq.refl _)))
  refine ⟨_, _, _, _, hO, ?_⟩
  repeat (refine Ob.mk ?_ ?_; (focus (first | (exact Eq.refl _) | (intro _; exact Eq.refl _) | (simp only [SrcE.len, Nat.zero_add, List.length_append, List.length_cons, List.length_nil]; omega) | (exact fun hg => beq_t hg) | (exact fun hg => hg) | (simp [l]; done))))
  trivial
  all_goals (omega)
end Go.Proofs.Ytpcagbfnddgjpaa
