/- package pair: contracts. -/
import Derived.Test.YtpcagbfnddgjpaaCMac
import Derived.Test.YtpcagbfnddgjpaaPairF
namespace Go.Proofs.Ytpcagbfnddgjpaa
open Go.RowKit
set_option linter.unusedVariables false
set_option linter.unusedSimpArgs false

set_option maxRecDepth 100000 in
set_option maxHeartbeats 4000000 in
theorem cf_Mark {k : List UInt8} : Cf Try.prog 32 [] [.s k] [] (.tup [.bs (markR k), .i (hexC k)]) := by
  refine Cf.introR tabT {} D0 (by kernel_rfl) tab_ok Try.func32 Try.ntmps32 rfl rfl (D0_ok) (by kernel_rfl) ?_
  refine ⟨_, _, _, _, (@cf_hexCheck ?_), ?_⟩
  rotate_left 1
  repeat (refine Ob.mk ?_ ?_; focus ((exact Eq.refl _)))
  refine ⟨fun h1 => ?_, fun h1 => ?_⟩
  · skip
    have c1 := h1
    (simp only [Bool.not_eq_true', Bool.not_eq_false', Bool.not_true, Bool.not_false, Bool.and_eq_true, Bool.or_eq_true, Bool.and_eq_false_iff, Bool.or_eq_false_iff, Bool.not_not, beq_true, beq_false, decide_eq_true_eq, decide_eq_false_iff_not] at c1)
    repeat (refine Ob.mk ?_ ?_; (focus (first | (exact Eq.refl _) | (simp only [markR, h1, Bool.cond_decide, Bool.cond_not, cond_true, cond_false, Bool.not_true, Bool.not_false, Bool.and_true, Bool.true_and, Bool.and_false, Bool.false_and, Bool.or_true, Bool.true_or, Bool.or_false, Bool.false_or]; simp (disch := omega) only [if_pos, if_neg]; done))))
    trivial
  · skip
    have c1 := h1
    (simp only [Bool.not_eq_true', Bool.not_eq_false', Bool.not_true, Bool.not_false, Bool.and_eq_true, Bool.or_eq_true, Bool.and_eq_false_iff, Bool.or_eq_false_iff, Bool.not_not, beq_true, beq_false, decide_eq_true_eq, decide_eq_false_iff_not] at c1)
    obtain ⟨e1, e2, e3⟩ := key_bytes c1
    have s1 := sum_ok (l := [109, 97, 114, 107] ++ hexB k) (by simp; omega)
    have sl := shaSum_length ([109, 97, 114, 107] ++ hexB k)
    refine ⟨_, _, _, _, (@cf_hexBytes ?_), ?_⟩
    rotate_left 1
    repeat (refine Ob.mk ?_ ?_; (focus (first | (exact Eq.refl _) | omega | (simp only [SrcE.len, Nat.zero_add, List.length_append, List.length_cons, List.length_nil]; omega))))
    refine ⟨_, _, _, _, s1, ?_⟩
    repeat (refine Ob.mk ?_ ?_; (focus (first | (exact Eq.refl _) | (simp only [SrcE.len, Nat.zero_add, List.length_append, List.length_cons, List.length_nil]; done))))
    refine ⟨fun h2 => ?_, fun h2 => ?_⟩
    · skip
      (simp only [Int.reduceToNat, UInt8.reduceOfNat] at h2)
      have c2 := h2
      (simp only [Bool.not_eq_true', Bool.not_eq_false', Bool.not_true, Bool.not_false, Bool.and_eq_true, Bool.or_eq_true, Bool.and_eq_false_iff, Bool.or_eq_false_iff, Bool.not_not, beq_true, beq_false, decide_eq_true_eq, decide_eq_false_iff_not] at c2)
      repeat (refine Ob.mk ?_ ?_; (focus (first | omega | (simp_all [markR]; done))))
      trivial
    · skip
      (simp only [Int.reduceToNat, UInt8.reduceOfNat] at h2)
      have c2 := h2
      (simp only [Bool.not_eq_true', Bool.not_eq_false', Bool.not_true, Bool.not_false, Bool.and_eq_true, Bool.or_eq_true, Bool.and_eq_false_iff, Bool.or_eq_false_iff, Bool.not_not, beq_true, beq_false, decide_eq_true_eq, decide_eq_false_iff_not] at c2)
      repeat (refine Ob.mk ?_ ?_; (focus (first | (rw [markR_ok c1]; exact markS_ k) | (rw [sl]; decide) | (exact Eq.refl _) | omega | (simp [SrcE.len]; omega))))
      trivial
theorem mark_cf {k : List UInt8} (hk : hexC k = 0) : Cf Try.prog 32 [] [.s k] [] (.tup [.bs (markS k), .i 0]) := by
  have h := cf_Mark (k := k)
  rw [markR_ok hk, hk] at h; exact h
set_option maxRecDepth 100000 in
set_option maxHeartbeats 4000000 in
theorem cf_Nonce {k : List UInt8} {n : Int} : Cf Try.prog 33 [] [.s k, .i n] [] (.tup [.s (nonR k n), .i (nonE k n)]) := by
  have hT := cf_Tag (k := k) (b := nonB n) (by rw [nonB_length]; decide)
  refine Cf.introR tabT {} D0 (by kernel_rfl) tab_ok Try.func33 Try.ntmps33 rfl rfl (D0_ok) (by kernel_rfl) ?_
  repeat (refine Ob.mk ?_ ?_; focus (first | (exact fun hg => beq_f hg) | (exact fun hg => hg)))
  refine ⟨fun h1 => ?_, fun h1 => ?_⟩
  · skip
    have c1 := h1
    (simp only [Bool.not_eq_true', Bool.not_eq_false', Bool.not_true, Bool.not_false, Bool.and_eq_true, Bool.or_eq_true, Bool.and_eq_false_iff, Bool.or_eq_false_iff, Bool.not_not, beq_true, beq_false, decide_eq_true_eq, decide_eq_false_iff_not] at c1)
    repeat (refine Ob.mk ?_ ?_; (focus (((simp only [nonR, nonE, h1, Bool.cond_decide, Bool.cond_not, cond_true, cond_false, Bool.not_true, Bool.not_false, Bool.and_true, Bool.true_and, Bool.and_false, Bool.false_and, Bool.or_true, Bool.true_or, Bool.or_false, Bool.false_or]; simp (disch := omega) only [if_pos, if_neg]; done)))))
    trivial
  · skip
    have c1 := h1
    (simp only [Bool.not_eq_true', Bool.not_eq_false', Bool.not_true, Bool.not_false, Bool.and_eq_true, Bool.or_eq_true, Bool.and_eq_false_iff, Bool.or_eq_false_iff, Bool.not_not, beq_true, beq_false, decide_eq_true_eq, decide_eq_false_iff_not] at c1)
    repeat (refine Ob.mk ?_ ?_; focus (omega))
    refine ⟨_, _, _, _, hT, ?_⟩
    repeat (refine Ob.mk ?_ ?_; focus (first | (exact nonB_ n) | (exact Eq.refl _)))
    refine ⟨fun h2 => ?_, fun h2 => ?_⟩
    · skip
      have c2 := h2
      (simp only [Bool.not_eq_true', Bool.not_eq_false', Bool.not_true, Bool.not_false, Bool.and_eq_true, Bool.or_eq_true, Bool.and_eq_false_iff, Bool.or_eq_false_iff, Bool.not_not, beq_true, beq_false, decide_eq_true_eq, decide_eq_false_iff_not] at c2)
      repeat (refine Ob.mk ?_ ?_; (focus (((simp only [nonR, nonE, h1, h2, Bool.cond_decide, Bool.cond_not, cond_true, cond_false, Bool.not_true, Bool.not_false, Bool.and_true, Bool.true_and, Bool.and_false, Bool.false_and, Bool.or_true, Bool.true_or, Bool.or_false, Bool.false_or]; simp (disch := omega) only [if_pos, if_neg]; done)))))
      trivial
    · skip
      have c2 := h2
      (simp only [Bool.not_eq_true', Bool.not_eq_false', Bool.not_true, Bool.not_false, Bool.and_eq_true, Bool.or_eq_true, Bool.and_eq_false_iff, Bool.or_eq_false_iff, Bool.not_not, beq_true, beq_false, decide_eq_true_eq, decide_eq_false_iff_not] at c2)
      obtain ⟨t1, t2⟩ := tagR_ok c2; have tl := tagS_length k (nonB n); rw [← t1] at tl
      repeat (refine Ob.mk ?_ ?_; focus (omega))
      refine ⟨_, _, _, _, (@cf_hexText ?_ ?_), ?_⟩
      rotate_left 2
      repeat (refine Ob.mk ?_ ?_; (focus (first | (rw [t1]; unfold nonR; rw [if_neg (by omega), if_neg (fun h => h c2)]; exact nonS_ _ _) | (exact Eq.refl _) | (simp_all [nonR, nonE]; done))))
      trivial
      all_goals (((simp_all [nonR, nonE]; done)))
theorem non_cf {k : List UInt8} {n : Int} (hk : hexC k = 0) (h1 : 0 ≤ n) (h2 : n ≤ 4294967295) : Cf Try.prog 33 [] [.s k, .i n] [] (.tup [.s (nonS k n), .i 0]) := by
  have h := cf_Nonce (k := k) (n := n)
  obtain ⟨t1, t2⟩ := non_ok hk h1 h2
  rw [t1, t2] at h; exact h
end Go.Proofs.Ytpcagbfnddgjpaa
