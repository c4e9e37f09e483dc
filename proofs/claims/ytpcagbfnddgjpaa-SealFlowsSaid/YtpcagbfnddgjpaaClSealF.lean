/- SealFlows: the walk of the statement's function. -/
import Derived.Test.YtpcagbfnddgjpaaCSeal
import Derived.Test.YtpcagbfnddgjpaaCKey
namespace Go.Proofs.Ytpcagbfnddgjpaa
open Go.RowKit
set_option linter.unusedVariables false
set_option linter.unusedSimpArgs false

theorem seal_at (k : List UInt8) (c : Int) (b : List UInt8) {i : Nat} (hi : i < b.length) : (sealS k c b).getD i 0 = b.getD i 0 ^^^ (strm k c b.length).getD i 0 := by
  unfold sealS
  rw [List.getD_eq_getElem?_getD, List.getElem?_append_left (by rw [mix_length]; exact hi), ← List.getD_eq_getElem?_getD, mix_at _ _ hi]
set_option maxRecDepth 100000 in
set_option maxHeartbeats 4000000 in
theorem cf_SealFlows {n c a : Int} {b : List UInt8} (hn : IntIn n) (hc : IntIn c) (ha : IntIn a) : Cf Try.prog 7 [] [.i n, .i c, .i a, .bs b] [] (.b true) := by
  have hK := cf_Key hn
  have hk := keyS_ok n
  have q1 := pk_ge c (m := 1099511627777) (by decide)
  have q2 := pk_lt c (m := 1099511627777) (by decide)
  have hb : (b.take (min (b.length : Int) 200).toNat).length ≤ 200 := by rw [List.length_take]; omega
  have q3 := pk_ge a (m := ((b.take (min (b.length : Int) 200).toNat).length : Int) + 1) (by omega)
  have q4 := pk_lt a (m := ((b.take (min (b.length : Int) 200).toNat).length : Int) + 1) (by omega)
  have hS := seal_cf hk q1 (by omega) (b := b.take (min (b.length : Int) 200).toNat) (by omega)
  have h1 := stream_cf hk q1 (by omega) (n := ((b.take (min (b.length : Int) 200).toNat).length : Int)) (by omega) (by omega)
  have h2 := stream_cf hk q1 (by omega) (n := pk a (((b.take (min (b.length : Int) 200).toNat).length : Int) + 1)) (by omega) (by omega)
  have h3 := stream_cf hk q1 (by omega) (n := 5) (by decide) (by decide)
  have l1 := sealS_length (keyS n) (pk c 1099511627777) (b.take (min (b.length : Int) 200).toNat)
  have l2 := strm_length (keyS n) (pk c 1099511627777) (b.take (min (b.length : Int) 200).toNat).length
  have l3 := strm_length (keyS n) (pk c 1099511627777) 5
  have at_ := fun i hi => seal_at (keyS n) (pk c 1099511627777) (b.take (min (b.length : Int) 200).toNat) (i := i) hi
  have tk := strm_take (keyS n) (pk c 1099511627777) (a := (pk a (((b.take (min (b.length : Int) 200).toNat).length : Int) + 1)).toNat) (n := (b.take (min (b.length : Int) 200).toNat).length) (by omega)
  refine Cf.introR tabT {} (DR _ _ _ tabT {}) (by kernel_rfl) tab_ok Try.func7 Try.ntmps7 rfl rfl (DR_ok tab_ok (by kernel_rfl)) (by kernel_rfl) ?_
  repeat (refine Ob.mk ?_ ?_; focus (omega))
  refine ⟨_, _, _, _, (@cf_picked ?_ ?_ ?_ ?_ ?_), ?_⟩
  rotate_left 5
  repeat (refine Ob.mk ?_ ?_; (focus (first | (exact Eq.refl _) | (simp only [SrcE.len, Nat.zero_add, List.length_append, List.length_cons, List.length_nil]; omega))))
  refine ⟨_, _, _, _, (@cf_picked ?_ ?_ ?_ ?_ ?_), ?_⟩
  rotate_left 5
  repeat (refine Ob.mk ?_ ?_; focus ((exact Eq.refl _)))
  refine ⟨_, _, _, _, hK, ?_⟩
  repeat (refine Ob.mk ?_ ?_; focus ((exact Eq.refl _)))
  refine ⟨_, _, _, _, h1, ?_⟩
  repeat (refine Ob.mk ?_ ?_; focus ((exact Eq.refl _)))
  refine ⟨_, _, _, _, hK, ?_⟩
  repeat (refine Ob.mk ?_ ?_; focus ((exact Eq.refl _)))
  refine ⟨_, _, _, _, h2, ?_⟩
  repeat (refine Ob.mk ?_ ?_; focus ((exact Eq.refl _)))
  refine ⟨_, _, _, _, hK, ?_⟩
  repeat (refine Ob.mk ?_ ?_; focus ((exact Eq.refl _)))
  refine ⟨_, _, _, _, hS, ?_⟩
  repeat (refine Ob.mk ?_ ?_; focus ((exact Eq.refl _)))
  refine ⟨_, _, _, _, hK, ?_⟩
  repeat (refine Ob.mk ?_ ?_; focus ((exact Eq.refl _)))
  refine ⟨_, _, _, _, h3, ?_⟩
  repeat (refine Ob.mk ?_ ?_; focus ((exact Eq.refl _)))
  refine ⟨[0, 1, 3, 7, 15, 31, 63, 127, 255, 511, 1023, 2047, 4095, 8191, 16383, 32767, 65535, 131071, 262143, 524287, 1048575, 2097151, 1048575, 5242879, 16777215, 33554431, 67108863, 134217727, 268435455, 134217727, 671088639, 2147483647, 4294967295, 8589934591, 17179869183, 17179869183, 68719476735, 137438953471, 17179869183, 292057776127, 1099511627775, 2199023255551], by kernel_rfl, ?_⟩
  repeat (refine Ob.mk ?_ ?_; (focus (first | (exact fun hg => beq_f hg) | (exact fun hg => hg) | (intro hg; ((simp_all; omega))))))
  refine ⟨fun h1 => ?_, fun h1 => ?_⟩
  · skip
    (simp only [Int.reduceToNat, UInt8.reduceOfNat] at h1)
    have c1 := h1
    (simp only [Bool.not_eq_true', Bool.not_eq_false', Bool.not_true, Bool.not_false, Bool.and_eq_true, Bool.or_eq_true, Bool.and_eq_false_iff, Bool.or_eq_false_iff, Bool.not_not, beq_true, beq_false, decide_eq_true_eq, decide_eq_false_iff_not] at c1)
    repeat (refine Ob.mk ?_ ?_; (focus (((simp_all; omega)))))
    trivial
  · skip
    (simp only [Int.reduceToNat, UInt8.reduceOfNat] at h1)
    have c1 := h1
    (simp only [Bool.not_eq_true', Bool.not_eq_false', Bool.not_true, Bool.not_false, Bool.and_eq_true, Bool.or_eq_true, Bool.and_eq_false_iff, Bool.or_eq_false_iff, Bool.not_not, beq_true, beq_false, decide_eq_true_eq, decide_eq_false_iff_not] at c1)
    refine ⟨Nat, fun j => ⟨[(3, .bs (b.take (min (b.length : Int) 200).toNat)), (9, .bs (strm (keyS n) (pk c 1099511627777) (b.take (min (b.length : Int) 200).toNat).length)), (13, .bs (sealS (keyS n) (pk c 1099511627777) (b.take (min (b.length : Int) 200).toNat))), (105, .i ((b.take (min (b.length : Int) 200).toNat).length : Int)), (106, .i (j : Int))], []⟩, fun j => j ≤ (b.take (min (b.length : Int) 200).toNat).length, fun j => (b.take (min (b.length : Int) 200).toNat).length - j, 0, by simp, ?_, fun j hx1 => ?_⟩
    · skip
      repeat (refine Ob.mk ?_ ?_; focus ((exact Eq.refl _)))
      trivial
    refine ⟨fun h2 => ?_, fun h2 => ?_⟩
    · skip
      have c2 := h2
      (simp only [Bool.not_eq_true', Bool.not_eq_false', Bool.not_true, Bool.not_false, Bool.and_eq_true, Bool.or_eq_true, Bool.and_eq_false_iff, Bool.or_eq_false_iff, Bool.not_not, beq_true, beq_false, decide_eq_true_eq, decide_eq_false_iff_not] at c2)
      have ej := at_ j (by omega)
      refine ⟨[0, 0, 3, 7, 0, 0, 48, 112, 255, 0, 0, 1536, 3584, 8191], by kernel_rfl, ?_⟩
      repeat (refine Ob.mk ?_ ?_; focus (omega))
      refine ⟨fun h3 => ?_, fun h3 => ?_⟩
      · skip
        have c3 := h3
        (simp only [Bool.not_eq_true', Bool.not_eq_false', Bool.not_true, Bool.not_false, Bool.and_eq_true, Bool.or_eq_true, Bool.and_eq_false_iff, Bool.or_eq_false_iff, Bool.not_not, beq_true, beq_false, decide_eq_true_eq, decide_eq_false_iff_not] at c3)
        repeat (refine Ob.mk ?_ ?_; (focus (((simp_all; done)))))
        trivial
      · skip
        have c3 := h3
        (simp only [Bool.not_eq_true', Bool.not_eq_false', Bool.not_true, Bool.not_false, Bool.and_eq_true, Bool.or_eq_true, Bool.and_eq_false_iff, Bool.or_eq_false_iff, Bool.not_not, beq_true, beq_false, decide_eq_true_eq, decide_eq_false_iff_not] at c3)
        repeat (refine Ob.mk ?_ ?_; focus (omega))
        refine ⟨j + 1, (by omega), (by (simp only [SrcE.len, Nat.zero_add, List.length_append, List.length_cons, List.length_nil]; omega)), ?_⟩
        repeat (refine Ob.mk ?_ ?_; focus ((exact Eq.refl _)))
        trivial
    · skip
      have c2 := h2
      (simp only [Bool.not_eq_true', Bool.not_eq_false', Bool.not_true, Bool.not_false, Bool.and_eq_true, Bool.or_eq_true, Bool.and_eq_false_iff, Bool.or_eq_false_iff, Bool.not_not, beq_true, beq_false, decide_eq_true_eq, decide_eq_false_iff_not] at c2)
      repeat (refine Ob.mk ?_ ?_; focus ((exact Eq.refl _)))
      trivial
  all_goals (omega)
end Go.Proofs.Ytpcagbfnddgjpaa
