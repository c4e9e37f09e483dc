/- SealStrict: the walk of the statement's function. -/
import Derived.Test.YtpcagbfnddgjpaaCSeal
import Derived.Test.YtpcagbfnddgjpaaCKey
import Derived.Test.YtpcagbfnddgjpaaCConc
namespace Go.Proofs.Ytpcagbfnddgjpaa
open Go.RowKit
set_option linter.unusedVariables false
set_option linter.unusedSimpArgs false

theorem seal_take (k : List UInt8) (c : Int) (b : List UInt8) : (sealS k c b).take b.length = mix b (strm k c b.length) := by
  have lm := mix_length b (strm k c b.length)
  unfold sealS; rw [List.take_append_of_le_length (by omega), List.take_of_length_le (by omega)]
theorem seal_drop (k : List UInt8) (c : Int) (b : List UInt8) : (sealS k c b).drop b.length = (tagS k (signB c (mix b (strm k c b.length)))).take 16 := by
  have lm := mix_length b (strm k c b.length)
  unfold sealS; rw [List.drop_append_of_le_length (by omega), List.drop_of_length_le (by omega), List.nil_append]
theorem open_turned {k : List UInt8} {c : Int} {b : List UInt8} (h : hexC k = 0) (h1 : 0 ≤ c) (h2 : c ≤ 1099511627776) (h3 : b.length ≤ 220) (a : Int) (y : UInt8) :
    openE k c ((sealS k c b).take b.length ++ trn ((sealS k c b).drop b.length) a y) = 9 ∧ openR k c ((sealS k c b).take b.length ++ trn ((sealS k c b).drop b.length) a y) = [] := by
  have lm := mix_length b (strm k c b.length)
  have tl := tagS_length k (signB c (mix b (strm k c b.length)))
  rw [seal_take, seal_drop]
  have lt : ((tagS k (signB c (mix b (strm k c b.length)))).take 16).length = 16 := by rw [List.length_take, tl]; rfl
  have l2 := trn_len ((tagS k (signB c (mix b (strm k c b.length)))).take 16) a y
  have ne := trn_ne (l := (tagS k (signB c (mix b (strm k c b.length)))).take 16) (by omega) a y
  generalize trn ((tagS k (signB c (mix b (strm k c b.length)))).take 16) a y = T at l2 ne ⊢
  have le : (mix b (strm k c b.length) ++ T).length = b.length + 16 := by rw [List.length_append]; omega
  have e3 : (mix b (strm k c b.length) ++ T).length - 16 = b.length := by omega
  have t := (str_ok (k := k) (c := c) (n := max (((mix b (strm k c b.length) ++ T).length : Int) - 16) 0) h h1 h2 (by omega) (by omega)).1
  have e1 : (mix b (strm k c b.length) ++ T).take b.length = mix b (strm k c b.length) := by rw [List.take_append_of_le_length (by omega), List.take_of_length_le (by omega)]
  have e2 : (mix b (strm k c b.length) ++ T).drop b.length = T := by rw [List.drop_append_of_le_length (by omega), List.drop_of_length_le (by omega), List.nil_append]
  have e0 : openE k c (mix b (strm k c b.length) ++ T) = 9 := by
    unfold openE openB
    rw [if_neg (by omega), if_neg (fun q => q t), if_neg (by omega), e3, e1, e2, decide_eq_false (fun q => ne q.symm)]; rfl
  refine ⟨e0, ?_⟩
  unfold openR
  rw [e0]; rfl
theorem open_short {k : List UInt8} {c : Int} {b : List UInt8} (h : hexC k = 0) (h1 : 0 ≤ c) (h2 : c ≤ 1099511627776) (h3 : b.length < 16) : openE k c b = 8 ∧ openR k c b = [] := by
  have t := (str_ok (k := k) (c := c) (n := max ((b.length : Int) - 16) 0) h h1 h2 (by omega) (by omega)).1
  have e0 : openE k c b = 8 := by
    unfold openE
    rw [if_neg (by omega), if_neg (fun q => q t), if_pos (by omega)]
  refine ⟨e0, ?_⟩
  unfold openR
  rw [e0]; rfl
theorem turned_cf {k : List UInt8} {c : Int} {b : List UInt8} (h : hexC k = 0) (h1 : 0 ≤ c) (h2 : c ≤ 1099511627776) (h3 : b.length ≤ 220) (a : Int) (y : UInt8) : Cf Try.prog 37 [] [.s k, .i c, .bs ((sealS k c b).take b.length ++ trn ((sealS k c b).drop b.length) a y)] [] (.tup [.bs [], .i 9]) := by
  have l := sealS_length k c b
  have q := cf_Open (k := k) (c := c) (b := (sealS k c b).take b.length ++ trn ((sealS k c b).drop b.length) a y) (by rw [List.length_append, trn_len, List.length_take, List.length_drop]; omega)
  obtain ⟨t1, t2⟩ := open_turned h h1 h2 h3 a y
  rw [t1, t2] at q; exact q
theorem short_cf {k : List UInt8} {c : Int} {b : List UInt8} (h : hexC k = 0) (h1 : 0 ≤ c) (h2 : c ≤ 1099511627776) (h3 : b.length < 16) : Cf Try.prog 37 [] [.s k, .i c, .bs b] [] (.tup [.bs [], .i 8]) := by
  have q := cf_Open (k := k) (c := c) (b := b) (by omega)
  obtain ⟨t1, t2⟩ := open_short h h1 h2 h3
  rw [t1, t2] at q; exact q
set_option maxRecDepth 100000 in
set_option maxHeartbeats 4000000 in
theorem cf_TurnedO {l : List UInt8} {at_ : Int} {y : UInt8} (hl : l.length ≤ 1000000) (hq1 : -9223372036854775808 ≤ at_) (hq2 : at_ ≤ 9223372036854775807) : Cf Try.prog 27 [] [.bs l, .i at_, .u8 y] [] (.bs (trn l at_ y)) := by
  refine Cf.introR tabT {} D0 (by kernel_rfl) tab_ok Try.func27 Try.ntmps27 rfl rfl (D0_ok) (by kernel_rfl) ?_
  refine ⟨_, _, _, _, (@cf_cloneBytes ?_ ?_), ?_⟩
  rotate_left 2
  repeat (refine Ob.mk ?_ ?_; focus ((exact Eq.refl _)))
  refine ⟨fun h1 => ?_, fun h1 => ?_⟩
  · skip
    have c1 := h1
    (simp only [Bool.not_eq_true', Bool.not_eq_false', Bool.not_true, Bool.not_false, Bool.and_eq_true, Bool.or_eq_true, Bool.and_eq_false_iff, Bool.or_eq_false_iff, Bool.not_not, beq_true, beq_false, decide_eq_true_eq, decide_eq_false_iff_not] at c1)
    have hpk0 := pk_ge at_ (m := (l.length : Int)) (by omega); have hpk1 := pk_lt at_ (m := (l.length : Int)) (by omega)
    refine ⟨_, _, _, _, (@cf_picked ?_ ?_ ?_ ?_ ?_), ?_⟩
    rotate_left 5
    repeat (refine Ob.mk ?_ ?_; (focus (first | (exact Eq.refl _) | omega | (simp only [trn, h1, cond_true, cond_false, Bool.not_true, Bool.not_false, Bool.and_true, Bool.true_and, Bool.and_false, Bool.false_and, Bool.or_true, Bool.true_or, Bool.or_false, Bool.false_or, Int.reduceToNat, UInt8.reduceOfNat]; done) | (simp_all [trn]; done))))
    trivial
    all_goals (assumption)
  · skip
    have c1 := h1
    (simp only [Bool.not_eq_true', Bool.not_eq_false', Bool.not_true, Bool.not_false, Bool.and_eq_true, Bool.or_eq_true, Bool.and_eq_false_iff, Bool.or_eq_false_iff, Bool.not_not, beq_true, beq_false, decide_eq_true_eq, decide_eq_false_iff_not] at c1)
    repeat (refine Ob.mk ?_ ?_; (focus (first | (exact Eq.refl _) | (simp only [trn, h1, cond_true, cond_false, Bool.not_true, Bool.not_false, Bool.and_true, Bool.true_and, Bool.and_false, Bool.false_and, Bool.or_true, Bool.true_or, Bool.or_false, Bool.false_or, Int.reduceToNat, UInt8.reduceOfNat]; done))))
    trivial
  all_goals (omega)
set_option maxRecDepth 100000 in
set_option maxHeartbeats 4000000 in
theorem cf_SealStrict {n c at_ : Int} {b : List UInt8} {y : UInt8} (hn : IntIn n) (hc : IntIn c) (hat : IntIn at_) : Cf Try.prog 9 [] [.i n, .i c, .bs b, .i at_, .u8 y] [] (.b true) := by
  have hK := cf_Key hn
  have hk := keyS_ok n
  have q1 := pk_ge c (m := 1099511627777) (by decide)
  have q2 := pk_lt c (m := 1099511627777) (by decide)
  have hb : (b.take (min (b.length : Int) 200).toNat).length ≤ 200 := by rw [List.length_take]; omega
  have hS := seal_cf hk q1 (by omega) (b := b.take (min (b.length : Int) 200).toNat) (by omega)
  have l1 := sealS_length (keyS n) (pk c 1099511627777) (b.take (min (b.length : Int) 200).toNat)
  have hT := turned_cf hk q1 (by omega) (b := b.take (min (b.length : Int) 200).toNat) (by omega) at_ y
  have ld : ((sealS (keyS n) (pk c 1099511627777) (b.take (min (b.length : Int) 200).toNat)).drop (b.take (min (b.length : Int) 200).toNat).length).length = 16 := by rw [List.length_drop]; omega
  have lt : ((sealS (keyS n) (pk c 1099511627777) (b.take (min (b.length : Int) 200).toNat)).take (b.take (min (b.length : Int) 200).toNat).length).length = (b.take (min (b.length : Int) 200).toNat).length := by rw [List.length_take]; omega
  have hU := cf_TurnedO (l := (sealS (keyS n) (pk c 1099511627777) (b.take (min (b.length : Int) 200).toNat)).drop (b.take (min (b.length : Int) 200).toNat).length) (y := y) (by omega) hat.1 hat.2
  have lu := trn_len ((sealS (keyS n) (pk c 1099511627777) (b.take (min (b.length : Int) 200).toNat)).drop (b.take (min (b.length : Int) 200).toNat).length) at_ y
  have hC := cf_Concat (l := (sealS (keyS n) (pk c 1099511627777) (b.take (min (b.length : Int) 200).toNat)).take (b.take (min (b.length : Int) 200).toNat).length) (m := trn ((sealS (keyS n) (pk c 1099511627777) (b.take (min (b.length : Int) 200).toNat)).drop (b.take (min (b.length : Int) 200).toNat).length) at_ y) (by omega) (by omega)
  have hZ := short_cf hk q1 (by omega) (b := (sealS (keyS n) (pk c 1099511627777) (b.take (min (b.length : Int) 200).toNat)).drop ((b.take (min (b.length : Int) 200).toNat).length + 1)) (by rw [List.length_drop]; omega)
  refine Cf.introR tabT {} (DR _ _ _ tabT {}) (by kernel_rfl) tab_ok Try.func9 Try.ntmps9 rfl rfl (DR_ok tab_ok (by kernel_rfl)) (by kernel_rfl) ?_
  repeat (refine Ob.mk ?_ ?_; focus (omega))
  refine ⟨_, _, _, _, (@cf_picked ?_ ?_ ?_ ?_ ?_), ?_⟩
  rotate_left 5
  repeat (refine Ob.mk ?_ ?_; focus ((exact Eq.refl _)))
  refine ⟨_, _, _, _, hK, ?_⟩
  repeat (refine Ob.mk ?_ ?_; focus ((exact Eq.refl _)))
  refine ⟨_, _, _, _, hS, ?_⟩
  repeat (refine Ob.mk ?_ ?_; (focus (first | (exact Eq.refl _) | (intro _; exact Eq.refl _) | (simp only [SrcE.len, Nat.zero_add, List.length_append, List.length_cons, List.length_nil]; omega))))
  refine ⟨fun h1 => ?_, fun h1 => ?_⟩
  · skip
    (simp only [Int.reduceToNat, UInt8.reduceOfNat] at h1)
    have c1 := h1
    (simp only [Bool.not_eq_true', Bool.not_eq_false', Bool.not_true, Bool.not_false, Bool.and_eq_true, Bool.or_eq_true, Bool.and_eq_false_iff, Bool.or_eq_false_iff, Bool.not_not, beq_true, beq_false, decide_eq_true_eq, decide_eq_false_iff_not] at c1)
    repeat (refine Ob.mk ?_ ?_; (focus (((simp_all; done)))))
    trivial
  · skip
    (simp only [Int.reduceToNat, UInt8.reduceOfNat] at h1)
    have c1 := h1
    (simp only [Bool.not_eq_true', Bool.not_eq_false', Bool.not_true, Bool.not_false, Bool.and_eq_true, Bool.or_eq_true, Bool.and_eq_false_iff, Bool.or_eq_false_iff, Bool.not_not, beq_true, beq_false, decide_eq_true_eq, decide_eq_false_iff_not] at c1)
    refine ⟨[0, 1, 0, 0, 0, 16, 56, 0, 0, 256, 896, 0, 0, 8067, 16379, 32763, 65535, 131071, 262143, 262143, 524287, 2097151], by kernel_rfl, ?_⟩
    refine ⟨_, _, _, _, hK, ?_⟩
    repeat (refine Ob.mk ?_ ?_; (focus (first | (exact Eq.refl _) | (simp only [SrcE.len, Nat.zero_add, List.length_append, List.length_cons, List.length_nil]; omega))))
    refine ⟨_, _, _, _, hU, ?_⟩
    repeat (refine Ob.mk ?_ ?_; focus ((exact Eq.refl _)))
    refine ⟨_, _, _, _, hC, ?_⟩
    repeat (refine Ob.mk ?_ ?_; focus ((exact Eq.refl _)))
    refine ⟨_, _, _, _, hT, ?_⟩
    repeat (refine Ob.mk ?_ ?_; focus ((exact Eq.refl _)))
    refine ⟨[0, 1, 0, 0, 0, 16, 48, 120, 255, 511, 1023, 1023, 2047, 8191], by kernel_rfl, ?_⟩
    refine ⟨_, _, _, _, hK, ?_⟩
    repeat (refine Ob.mk ?_ ?_; (focus (first | (exact Eq.refl _) | (simp only [SrcE.len, Nat.zero_add, List.length_append, List.length_cons, List.length_nil]; omega))))
    refine ⟨_, _, _, _, hZ, ?_⟩
    repeat (refine Ob.mk ?_ ?_; (focus (first | (exact Eq.refl _) | (intro _; exact Eq.refl _))))
    trivial
  all_goals (omega)
end Go.Proofs.Ytpcagbfnddgjpaa
