/- The laws' own helpers: contracts. -/
import Derived.Test.YtpcagbfnddgjpaaTab
import Derived.Test.YtpcagbfnddgjpaaPickF
namespace Go.Proofs.Ytpcagbfnddgjpaa
open Go.RowKit
set_option linter.unusedVariables false
set_option linter.unusedSimpArgs false

set_option maxRecDepth 100000 in
set_option maxHeartbeats 4000000 in
theorem cf_picked {n m : Int} (hq1 : -9223372036854775808 ≤ n) (hq2 : n ≤ 9223372036854775807) (hm : 0 < m) : Cf Try.prog 31 [] [.i n, .i m] [] (.i (pk n m)) := by
  refine Cf.introR tabT {} D0 (by kernel_rfl) tab_ok Try.func31 Try.ntmps31 rfl rfl (D0_ok) (by kernel_rfl) ?_
  refine ⟨fun h1 => ?_, fun h1 => ?_⟩
  · skip
    have c1 := h1
    (simp only [Bool.not_eq_true', Bool.not_eq_false', Bool.not_true, Bool.not_false, Bool.and_eq_true, Bool.or_eq_true, Bool.and_eq_false_iff, Bool.or_eq_false_iff, Bool.not_not, beq_true, beq_false, decide_eq_true_eq, decide_eq_false_iff_not] at c1)
    repeat (refine Ob.mk ?_ ?_; (focus (first | omega | (simp only [pk, h1, cond_true, cond_false, Bool.not_true, Bool.not_false, Bool.and_true, Bool.true_and, Bool.and_false, Bool.false_and, Bool.or_true, Bool.true_or, Bool.or_false, Bool.false_or, Int.reduceToNat, UInt8.reduceOfNat]; done))))
    trivial
  · skip
    have c1 := h1
    (simp only [Bool.not_eq_true', Bool.not_eq_false', Bool.not_true, Bool.not_false, Bool.and_eq_true, Bool.or_eq_true, Bool.and_eq_false_iff, Bool.or_eq_false_iff, Bool.not_not, beq_true, beq_false, decide_eq_true_eq, decide_eq_false_iff_not] at c1)
    repeat (refine Ob.mk ?_ ?_; (focus (first | omega | (simp only [pk, h1, cond_true, cond_false, Bool.not_true, Bool.not_false, Bool.and_true, Bool.true_and, Bool.and_false, Bool.false_and, Bool.or_true, Bool.true_or, Bool.or_false, Bool.false_or, Int.reduceToNat, UInt8.reduceOfNat]; done))))
    trivial
set_option maxRecDepth 100000 in
set_option maxHeartbeats 4000000 in
theorem cf_cloneBytes {l : List UInt8} (hl : l.length ≤ 100000000) : Cf Try.prog 68 [] [.bs l] [(60, .rb l 5 0)] (.osl 60 l.length) := by
  refine Cf.introR tabT {own := [(2, 5)]} D0 (by kernel_rfl) tab_ok Try.func68 Try.ntmps68 rfl rfl (D0_ok) (by kernel_rfl) ?_
  refine fun g1 hg1 => ?_
  refine ⟨fun h2 => ?_, fun h2 => ?_⟩
  · skip
    have c2 := h2
    have hm0 := hg1 h2; obtain rfl : l = [] := List.eq_nil_of_length_eq_zero (by omega)
    repeat (refine Ob.mk ?_ ?_; focus (first | (exact Eq.refl _) | omega))
    trivial
  · skip
    have c2 := h2
    repeat (refine Ob.mk ?_ ?_; (focus (first | (exact Eq.refl _) | (exact Nat.le_of_ble_eq_true rfl) | (simp only [SrcE.len, Nat.zero_add, List.length_append, List.length_cons, List.length_nil]; first | done | omega))))
    trivial
set_option maxRecDepth 100000 in
set_option maxHeartbeats 4000000 in
theorem cf_Turned {l : List UInt8} {at_ : Int} {y : UInt8} (hl : l.length ≤ 1000000) (hq1 : -9223372036854775808 ≤ at_) (hq2 : at_ ≤ 9223372036854775807) : Cf Try.prog 27 [] [.bs l, .i at_, .u8 y] [(60, .rb (trn l at_ y) 5 0)] (.osl 60 (trn l at_ y).length) := by
  refine Cf.introR tabT {} D0 (by kernel_rfl) tab_ok Try.func27 Try.ntmps27 rfl rfl (D0_ok) (by kernel_rfl) ?_
  refine ⟨_, _, _, _, (@cf_cloneBytes ?_ ?_), ?_⟩
  rotate_left 2
  repeat (refine Ob.mk ?_ ?_; focus ((exact Eq.refl _)))
  refine ⟨fun h1 => ?_, fun h1 => ?_⟩
  · skip
    have c1 := h1
    (simp only [Bool.not_eq_true', Bool.not_eq_false', Bool.not_true, Bool.not_false, Bool.and_eq_true, Bool.or_eq_true, Bool.and_eq_false_iff, Bool.or_eq_false_iff, Bool.not_not, beq_true, beq_false, decide_eq_true_eq, decide_eq_false_iff_not] at c1)
    have hpk0 := pk_ge at_ (m := (l.length : Int)) (by omega); have hpk1 := pk_lt at_ (m := (l.length : Int)) (by omega)
    refine ⟨_, _, _, _, (@cf_picked ?_ ?_ ?_ ?_ ?_), ?_⟩
    rotate_left 5
    repeat (refine Ob.mk ?_ ?_; (focus (first | (exact Eq.refl _) | omega | (simp only [trn, h1, cond_true, cond_false, Bool.not_true, Bool.not_false, Bool.and_true, Bool.true_and, Bool.and_false, Bool.false_and, Bool.or_true, Bool.true_or, Bool.or_false, Bool.false_or, Int.reduceToNat, UInt8.reduceOfNat]; done) | (simp_all [trn]; done))))
    trivial
    all_goals (assumption)
  · skip
    have c1 := h1
    (simp only [Bool.not_eq_true', Bool.not_eq_false', Bool.not_true, Bool.not_false, Bool.and_eq_true, Bool.or_eq_true, Bool.and_eq_false_iff, Bool.or_eq_false_iff, Bool.not_not, beq_true, beq_false, decide_eq_true_eq, decide_eq_false_iff_not] at c1)
    repeat (refine Ob.mk ?_ ?_; (focus (first | omega | (simp only [trn, h1, cond_true, cond_false, Bool.not_true, Bool.not_false, Bool.and_true, Bool.true_and, Bool.and_false, Bool.false_and, Bool.or_true, Bool.true_or, Bool.or_false, Bool.false_or, Int.reduceToNat, UInt8.reduceOfNat]; done))))
    trivial
  all_goals (omega)
end Go.Proofs.Ytpcagbfnddgjpaa
