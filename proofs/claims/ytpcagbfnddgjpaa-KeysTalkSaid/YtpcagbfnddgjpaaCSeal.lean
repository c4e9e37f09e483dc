/- package seal: contracts. -/
import Derived.Test.YtpcagbfnddgjpaaCMac
import Derived.Test.YtpcagbfnddgjpaaSealF
namespace Go.Proofs.Ytpcagbfnddgjpaa
open Go.RowKit
set_option linter.unusedVariables false
set_option linter.unusedSimpArgs false

set_option maxRecDepth 100000 in
set_option maxHeartbeats 4000000 in
theorem cf_number {n : Int} : Cf Try.prog 71 [] [.i n] [] (.bs (num8 n)) := by
  refine Cf.introR tabT {} D0 (by kernel_rfl) tab_ok Try.func71 Try.ntmps71 rfl rfl (D0_ok) (by kernel_rfl) ?_
  repeat (refine Ob.mk ?_ ?_; focus (omega))
  refine ⟨Nat, fun k => ⟨[(0, .i n), (3, .osl 60 k), (4, .i (7 - (k : Int)))], [(60, .rb (numP n k) 5 0)]⟩, fun k => k ≤ 8, fun k => 8 - k, 0, by simp, ?_, fun k hx1 => ?_⟩
  · skip
    repeat (refine Ob.mk ?_ ?_; (focus (first | (rw [numP0]; exact Eq.refl _) | (exact Eq.refl _) | omega)))
    trivial
  refine ⟨fun h1 => ?_, fun h1 => ?_⟩
  · skip
    have c1 := h1
    (simp only [Bool.not_eq_true', Bool.not_eq_false', Bool.not_true, Bool.not_false, Bool.and_eq_true, Bool.or_eq_true, Bool.and_eq_false_iff, Bool.or_eq_false_iff, Bool.not_not, beq_true, beq_false, decide_eq_true_eq, decide_eq_false_iff_not] at c1)
    repeat (refine Ob.mk ?_ ?_; (focus (first | (rw [numP_length]; done) | (exact Eq.refl _) | omega | (simp only [SrcE.len, Nat.zero_add, List.length_append, List.length_cons, List.length_nil]; omega))))
    refine ⟨k + 1, (by omega), (by (simp only [SrcE.len, Nat.zero_add, List.length_append, List.length_cons, List.length_nil]; omega)), ?_⟩
    repeat (refine Ob.mk ?_ ?_; focus (first | (exact (numPs n k).symm) | (exact Eq.refl _) | omega | (exact Nat.le_of_ble_eq_true rfl)))
    trivial
  · skip
    have c1 := h1
    (simp only [Bool.not_eq_true', Bool.not_eq_false', Bool.not_true, Bool.not_false, Bool.and_eq_true, Bool.or_eq_true, Bool.and_eq_false_iff, Bool.or_eq_false_iff, Bool.not_not, beq_true, beq_false, decide_eq_true_eq, decide_eq_false_iff_not] at c1)
    obtain rfl : k = 8 := by omega
    repeat (refine Ob.mk ?_ ?_; (focus (first | (rw [numP_length]; done) | (exact num8_ n))))
    trivial
set_option maxRecDepth 100000 in
set_option maxHeartbeats 4000000 in
theorem cf_Stream {k : List UInt8} {c n : Int} : Cf Try.prog 35 [] [.s k, .i c, .i n] [] (.tup [.bs (strR k c n), .i (strE k c n)]) := by
  refine Cf.introR tabT {} D0 (by kernel_rfl) tab_ok Try.func35 Try.ntmps35 rfl rfl (D0_ok) (by kernel_rfl) ?_
  refine ⟨_, _, _, _, (@cf_hexCheck ?_), ?_⟩
  rotate_left 1
  repeat (refine Ob.mk ?_ ?_; focus ((exact Eq.refl _)))
  refine ⟨fun h1 => ?_, fun h1 => ?_⟩
  · skip
    have c1 := h1
    (simp only [Bool.not_eq_true', Bool.not_eq_false', Bool.not_true, Bool.not_false, Bool.and_eq_true, Bool.or_eq_true, Bool.and_eq_false_iff, Bool.or_eq_false_iff, Bool.not_not, beq_true, beq_false, decide_eq_true_eq, decide_eq_false_iff_not] at c1)
    repeat (refine Ob.mk ?_ ?_; (focus (((simp only [strR, strE, h1, Bool.cond_decide, Bool.cond_not, cond_true, cond_false, Bool.not_true, Bool.not_false, Bool.and_true, Bool.true_and, Bool.and_false, Bool.false_and, Bool.or_true, Bool.true_or, Bool.or_false, Bool.false_or]; simp (disch := omega) only [if_pos, if_neg]; done)))))
    trivial
  · skip
    have c1 := h1
    (simp only [Bool.not_eq_true', Bool.not_eq_false', Bool.not_true, Bool.not_false, Bool.and_eq_true, Bool.or_eq_true, Bool.and_eq_false_iff, Bool.or_eq_false_iff, Bool.not_not, beq_true, beq_false, decide_eq_true_eq, decide_eq_false_iff_not] at c1)
    repeat (refine Ob.mk ?_ ?_; focus (first | (exact fun hg => beq_f hg) | (exact fun hg => hg)))
    refine ⟨fun h2 => ?_, fun h2 => ?_⟩
    · skip
      have c2 := h2
      (simp only [Bool.not_eq_true', Bool.not_eq_false', Bool.not_true, Bool.not_false, Bool.and_eq_true, Bool.or_eq_true, Bool.and_eq_false_iff, Bool.or_eq_false_iff, Bool.not_not, beq_true, beq_false, decide_eq_true_eq, decide_eq_false_iff_not] at c2)
      repeat (refine Ob.mk ?_ ?_; (focus (((simp only [strR, strE, h1, h2, Bool.cond_decide, Bool.cond_not, cond_true, cond_false, Bool.not_true, Bool.not_false, Bool.and_true, Bool.true_and, Bool.and_false, Bool.false_and, Bool.or_true, Bool.true_or, Bool.or_false, Bool.false_or]; simp (disch := omega) only [if_pos, if_neg]; done)))))
      trivial
    · skip
      have c2 := h2
      (simp only [Bool.not_eq_true', Bool.not_eq_false', Bool.not_true, Bool.not_false, Bool.and_eq_true, Bool.or_eq_true, Bool.and_eq_false_iff, Bool.or_eq_false_iff, Bool.not_not, beq_true, beq_false, decide_eq_true_eq, decide_eq_false_iff_not] at c2)
      repeat (refine Ob.mk ?_ ?_; focus (omega))
      refine ⟨Nat, fun m => ⟨[(0, .s k), (1, .i c), (2, .i n), (9, .osl 60 (32 * m)), (10, .i (m : Int))], [(60, .rb (strL k c m) 5 0)]⟩, fun m => 32 * (m : Int) < n + 32, fun m => 300 - m, 0, by show 32 * ((0 : Nat) : Int) < n + 32; omega, ?_, fun m hx1 => ?_⟩
      · skip
        repeat (refine Ob.mk ?_ ?_; (focus (first | (rw [strL0]; exact Eq.refl _) | (exact Eq.refl _) | omega)))
        trivial
      refine ⟨fun h3 => ?_, fun h3 => ?_⟩
      · skip
        have c3 := h3
        (simp only [Bool.not_eq_true', Bool.not_eq_false', Bool.not_true, Bool.not_false, Bool.and_eq_true, Bool.or_eq_true, Bool.and_eq_false_iff, Bool.or_eq_false_iff, Bool.not_not, beq_true, beq_false, decide_eq_true_eq, decide_eq_false_iff_not] at c3)
        have l1 := num8_length c; have l2 := num8_length (m : Int)
        have hT := tag_cf (k := k) (b := [102, 108, 111, 119] ++ num8 c ++ num8 (m : Int)) c1 (by simp [num8_length])
        have tl := tagS_length k ([102, 108, 111, 119] ++ num8 c ++ num8 (m : Int)); have sl := strL_length k c m
        repeat (refine Ob.mk ?_ ?_; (focus (((simp [SrcE.len, l1, l2]; done)))))
        refine ⟨_, _, _, _, (@cf_number ?_), ?_⟩
        rotate_left 1
        repeat (refine Ob.mk ?_ ?_; (focus (first | (simp [SrcE.len, l1, l2]; done) | (exact Eq.refl _))))
        refine ⟨_, _, _, _, (@cf_number ?_), ?_⟩
        rotate_left 1
        repeat (refine Ob.mk ?_ ?_; (focus (first | (simp [SrcE.len, l1, l2]; done) | (exact Eq.refl _))))
        refine ⟨_, _, _, _, hT, ?_⟩
        repeat (refine Ob.mk ?_ ?_; (focus (first | (simp [SrcE.len, l1, l2]; done) | omega | (simp only [SrcE.len, Nat.zero_add, List.length_append, List.length_cons, List.length_nil]; omega))))
        refine ⟨m + 1, (by omega), (by (simp only [SrcE.len, Nat.zero_add, List.length_append, List.length_cons, List.length_nil]; omega)), ?_⟩
        repeat (refine Ob.mk ?_ ?_; (focus (first | (exact (strLs k c m).symm) | (simp [SrcE.len, l1, l2]; done) | (exact Nat.le_of_ble_eq_true rfl) | (simp only [SrcE.len, Nat.zero_add, List.length_append, List.length_cons, List.length_nil]; omega))))
        trivial
      · skip
        have c3 := h3
        (simp only [Bool.not_eq_true', Bool.not_eq_false', Bool.not_true, Bool.not_false, Bool.and_eq_true, Bool.or_eq_true, Bool.and_eq_false_iff, Bool.or_eq_false_iff, Bool.not_not, beq_true, beq_false, decide_eq_true_eq, decide_eq_false_iff_not] at c3)
        have sl := strL_length k c m; have em : m = (n.toNat + 31) / 32 := by omega
        have f1 := (str_ok (c := c) (n := n) c1 (by omega) (by omega) (by omega) (by omega)).2; have f2 : (strL k c m).take n.toNat = strm k c n.toNat := by rw [em]; exact strm_ k c n.toNat
        repeat (refine Ob.mk ?_ ?_; (focus (first | (rw [f1]; exact f2) | (exact Eq.refl _) | omega | (simp only [strR, strE, h1, h2, h3, Bool.cond_decide, Bool.cond_not, cond_true, cond_false, Bool.not_true, Bool.not_false, Bool.and_true, Bool.true_and, Bool.and_false, Bool.false_and, Bool.or_true, Bool.true_or, Bool.or_false, Bool.false_or]; simp (disch := omega) only [if_pos, if_neg]; done) | (simp [SrcE.len]; omega))))
        trivial
set_option maxRecDepth 100000 in
set_option maxHeartbeats 4000000 in
theorem cf_mixed {a b : List UInt8} (h : a.length ≤ b.length) (ha : a.length ≤ 1000000) : Cf Try.prog 72 [] [.bs a, .bs b] [] (.bs (mix a b)) := by
  refine Cf.introR tabT {} (DR _ _ _ tabT {}) (by kernel_rfl) tab_ok Try.func72 Try.ntmps72 rfl rfl (DR_ok tab_ok (by kernel_rfl)) (by kernel_rfl) ?_
  repeat (refine Ob.mk ?_ ?_; focus (omega))
  refine ⟨Nat, fun j => ⟨[(0, .bs a), (1, .bs b), (5, .osl 60 a.length), (11, .i (a.length : Int)), (12, .i (j : Int))], [(60, .rb (mixP a b j) 5 0)]⟩, fun j => j ≤ a.length, fun j => a.length - j, 0, by simp, ?_, fun j hx1 => ?_⟩
  · skip
    repeat (refine Ob.mk ?_ ?_; (focus (first | (rw [mixP0]; exact Eq.refl _) | (exact Eq.refl _) | omega)))
    trivial
  refine ⟨fun h1 => ?_, fun h1 => ?_⟩
  · skip
    have c1 := h1
    (simp only [Bool.not_eq_true', Bool.not_eq_false', Bool.not_true, Bool.not_false, Bool.and_eq_true, Bool.or_eq_true, Bool.and_eq_false_iff, Bool.or_eq_false_iff, Bool.not_not, beq_true, beq_false, decide_eq_true_eq, decide_eq_false_iff_not] at c1)
    have ml := mixP_length a b j
    refine ⟨[0, 0, 0, 0, 12, 28, 0, 0, 192, 448, 1020, 2047, 4095], by kernel_rfl, ?_⟩
    repeat (refine Ob.mk ?_ ?_; focus (omega))
    refine ⟨j + 1, (by omega), (by (simp only [SrcE.len, Nat.zero_add, List.length_append, List.length_cons, List.length_nil]; omega)), ?_⟩
    repeat (refine Ob.mk ?_ ?_; (focus (first | (rw [mixPs]; exact Eq.refl _) | (exact Eq.refl _) | omega)))
    trivial
  · skip
    have c1 := h1
    (simp only [Bool.not_eq_true', Bool.not_eq_false', Bool.not_true, Bool.not_false, Bool.and_eq_true, Bool.or_eq_true, Bool.and_eq_false_iff, Bool.or_eq_false_iff, Bool.not_not, beq_true, beq_false, decide_eq_true_eq, decide_eq_false_iff_not] at c1)
    obtain rfl : j = a.length := by omega
    repeat (refine Ob.mk ?_ ?_; (focus (first | (rw [mixP_length]; done) | (exact mix_ a b))))
    trivial
set_option maxRecDepth 100000 in
set_option maxHeartbeats 4000000 in
theorem cf_signed {c : Int} {b : List UInt8} (hb : b.length ≤ 1000000) : Cf Try.prog 73 [] [.i c, .bs b] [] (.bs (signB c b)) := by
  have l1 := num8_length c
  refine Cf.introR tabT {} D0 (by kernel_rfl) tab_ok Try.func73 Try.ntmps73 rfl rfl (D0_ok) (by kernel_rfl) ?_
  repeat (refine Ob.mk ?_ ?_; (focus (((simp [SrcE.len, l1]; done)))))
  refine ⟨_, _, _, _, (@cf_number ?_), ?_⟩
  rotate_left 1
  repeat (refine Ob.mk ?_ ?_; (focus (first | (simp [SrcE.len, l1]; done) | (simp [SrcE.len, l1]; omega) | (exact Eq.refl _))))
  trivial
set_option maxRecDepth 100000 in
set_option maxHeartbeats 4000000 in
theorem cf_Seal {k b : List UInt8} {c : Int} (hb : b.length ≤ 1000000) : Cf Try.prog 36 [] [.s k, .i c, .bs b] [] (.tup [.bs (sealR k c b), .i (sealE k c b)]) := by
  refine Cf.introR tabT {} (DR _ _ _ tabT {}) (by kernel_rfl) tab_ok Try.func36 Try.ntmps36 rfl rfl (DR_ok tab_ok (by kernel_rfl)) (by kernel_rfl) ?_
  refine ⟨fun h1 => ?_, fun h1 => ?_⟩
  · skip
    have c1 := h1
    (simp only [Bool.not_eq_true', Bool.not_eq_false', Bool.not_true, Bool.not_false, Bool.and_eq_true, Bool.or_eq_true, Bool.and_eq_false_iff, Bool.or_eq_false_iff, Bool.not_not, beq_true, beq_false, decide_eq_true_eq, decide_eq_false_iff_not] at c1)
    repeat (refine Ob.mk ?_ ?_; (focus (((simp only [sealR, sealE, h1, Bool.cond_decide, Bool.cond_not, cond_true, cond_false, Bool.not_true, Bool.not_false, Bool.and_true, Bool.true_and, Bool.and_false, Bool.false_and, Bool.or_true, Bool.true_or, Bool.or_false, Bool.false_or]; simp (disch := omega) only [if_pos, if_neg]; done)))))
    trivial
  · skip
    have c1 := h1
    (simp only [Bool.not_eq_true', Bool.not_eq_false', Bool.not_true, Bool.not_false, Bool.and_eq_true, Bool.or_eq_true, Bool.and_eq_false_iff, Bool.or_eq_false_iff, Bool.not_not, beq_true, beq_false, decide_eq_true_eq, decide_eq_false_iff_not] at c1)
    refine ⟨_, _, _, _, (@cf_Stream ?_ ?_ ?_), ?_⟩
    rotate_left 3
    repeat (refine Ob.mk ?_ ?_; focus ((exact Eq.refl _)))
    refine ⟨fun h2 => ?_, fun h2 => ?_⟩
    · skip
      have c2 := h2
      (simp only [Bool.not_eq_true', Bool.not_eq_false', Bool.not_true, Bool.not_false, Bool.and_eq_true, Bool.or_eq_true, Bool.and_eq_false_iff, Bool.or_eq_false_iff, Bool.not_not, beq_true, beq_false, decide_eq_true_eq, decide_eq_false_iff_not] at c2)
      repeat (refine Ob.mk ?_ ?_; (focus (((simp only [sealR, sealE, h1, h2, Bool.cond_decide, Bool.cond_not, cond_true, cond_false, Bool.not_true, Bool.not_false, Bool.and_true, Bool.true_and, Bool.and_false, Bool.false_and, Bool.or_true, Bool.true_or, Bool.or_false, Bool.false_or]; simp (disch := omega) only [if_pos, if_neg]; done)))))
      trivial
    · skip
      have c2 := h2
      (simp only [Bool.not_eq_true', Bool.not_eq_false', Bool.not_true, Bool.not_false, Bool.and_eq_true, Bool.or_eq_true, Bool.and_eq_false_iff, Bool.or_eq_false_iff, Bool.not_not, beq_true, beq_false, decide_eq_true_eq, decide_eq_false_iff_not] at c2)
      obtain ⟨q1, q2, q3, q4, q5, q6⟩ := strE_ok c2
      have sl := strm_length k c b.length; have qe : (strR k c b.length).length = b.length := by rw [q6]; exact sl
      have ml := mix_length b (strR k c b.length); have sg := signB_length c (mix b (strR k c b.length))
      have hT := tag_cf (k := k) (b := signB c (mix b (strR k c b.length))) q1 (by omega); have tl := tagS_length k (signB c (mix b (strR k c b.length)))
      refine ⟨_, _, _, _, (@cf_mixed ?_ ?_ ?_ ?_), ?_⟩
      rotate_left 4
      repeat (refine Ob.mk ?_ ?_; focus ((exact Eq.refl _)))
      refine ⟨_, _, _, _, (@cf_signed ?_ ?_ ?_), ?_⟩
      rotate_left 3
      repeat (refine Ob.mk ?_ ?_; focus ((exact Eq.refl _)))
      refine ⟨_, _, _, _, hT, ?_⟩
      repeat (refine Ob.mk ?_ ?_; (focus (((simp [SrcE.len, ml, tl]; done)))))
      refine ⟨[0, 1, 0, 4, 15, 31, 63], by kernel_rfl, ?_⟩
      repeat (refine Ob.mk ?_ ?_; (focus (first | (unfold sealR; rw [if_neg c1, if_neg (fun q => q c2), q6]; exact Eq.refl _) | (simp [SrcE.len, ml, tl]; done) | (simp [SrcE.len, ml, tl]; omega) | (simp_all [sealR, sealE]; done))))
      trivial
      all_goals (first | (rw [qe]; exact Nat.le_refl _) | (simp [SrcE.len, ml, tl]; omega) | assumption)
set_option maxRecDepth 100000 in
set_option maxHeartbeats 4000000 in
theorem cf_Open {k b : List UInt8} {c : Int} (hb : b.length ≤ 1000000) : Cf Try.prog 37 [] [.s k, .i c, .bs b] [] (.tup [.bs (openR k c b), .i (openE k c b)]) := by
  refine Cf.introR tabT {} (DR _ _ _ tabT {}) (by kernel_rfl) tab_ok Try.func37 Try.ntmps37 rfl rfl (DR_ok tab_ok (by kernel_rfl)) (by kernel_rfl) ?_
  repeat (refine Ob.mk ?_ ?_; focus (omega))
  refine ⟨fun h1 => ?_, fun h1 => ?_⟩
  · skip
    have c1 := h1
    (simp only [Bool.not_eq_true', Bool.not_eq_false', Bool.not_true, Bool.not_false, Bool.and_eq_true, Bool.or_eq_true, Bool.and_eq_false_iff, Bool.or_eq_false_iff, Bool.not_not, beq_true, beq_false, decide_eq_true_eq, decide_eq_false_iff_not] at c1)
    repeat (refine Ob.mk ?_ ?_; (focus (((simp only [openR, openE, openB, h1, Bool.cond_decide, Bool.cond_not, cond_true, cond_false, Bool.not_true, Bool.not_false, Bool.and_true, Bool.true_and, Bool.and_false, Bool.false_and, Bool.or_true, Bool.true_or, Bool.or_false, Bool.false_or]; simp (disch := omega) only [if_pos, if_neg]; done)))))
    trivial
  · skip
    have c1 := h1
    (simp only [Bool.not_eq_true', Bool.not_eq_false', Bool.not_true, Bool.not_false, Bool.and_eq_true, Bool.or_eq_true, Bool.and_eq_false_iff, Bool.or_eq_false_iff, Bool.not_not, beq_true, beq_false, decide_eq_true_eq, decide_eq_false_iff_not] at c1)
    refine ⟨_, _, _, _, (@cf_Stream ?_ ?_ ?_), ?_⟩
    rotate_left 3
    repeat (refine Ob.mk ?_ ?_; focus ((exact Eq.refl _)))
    refine ⟨fun h2 => ?_, fun h2 => ?_⟩
    · skip
      have c2 := h2
      (simp only [Bool.not_eq_true', Bool.not_eq_false', Bool.not_true, Bool.not_false, Bool.and_eq_true, Bool.or_eq_true, Bool.and_eq_false_iff, Bool.or_eq_false_iff, Bool.not_not, beq_true, beq_false, decide_eq_true_eq, decide_eq_false_iff_not] at c2)
      repeat (refine Ob.mk ?_ ?_; (focus (((simp only [openR, openE, openB, h1, h2, Bool.cond_decide, Bool.cond_not, cond_true, cond_false, Bool.not_true, Bool.not_false, Bool.and_true, Bool.true_and, Bool.and_false, Bool.false_and, Bool.or_true, Bool.true_or, Bool.or_false, Bool.false_or]; simp (disch := omega) only [if_pos, if_neg]; done)))))
      trivial
    · skip
      have c2 := h2
      (simp only [Bool.not_eq_true', Bool.not_eq_false', Bool.not_true, Bool.not_false, Bool.and_eq_true, Bool.or_eq_true, Bool.and_eq_false_iff, Bool.or_eq_false_iff, Bool.not_not, beq_true, beq_false, decide_eq_true_eq, decide_eq_false_iff_not] at c2)
      obtain ⟨q1, q2, q3, q4, q5, q6⟩ := strE_ok c2
      refine ⟨fun h3 => ?_, fun h3 => ?_⟩
      · skip
        have c3 := h3
        (simp only [Bool.not_eq_true', Bool.not_eq_false', Bool.not_true, Bool.not_false, Bool.and_eq_true, Bool.or_eq_true, Bool.and_eq_false_iff, Bool.or_eq_false_iff, Bool.not_not, beq_true, beq_false, decide_eq_true_eq, decide_eq_false_iff_not] at c3)
        repeat (refine Ob.mk ?_ ?_; (focus (((simp only [openR, openE, openB, h1, h2, h3, Bool.cond_decide, Bool.cond_not, cond_true, cond_false, Bool.not_true, Bool.not_false, Bool.and_true, Bool.true_and, Bool.and_false, Bool.false_and, Bool.or_true, Bool.true_or, Bool.or_false, Bool.false_or]; simp (disch := omega) only [if_pos, if_neg]; done)))))
        trivial
      · skip
        have c3 := h3
        (simp only [Bool.not_eq_true', Bool.not_eq_false', Bool.not_true, Bool.not_false, Bool.and_eq_true, Bool.or_eq_true, Bool.and_eq_false_iff, Bool.or_eq_false_iff, Bool.not_not, beq_true, beq_false, decide_eq_true_eq, decide_eq_false_iff_not] at c3)
        have en : ((b.length : Int) - 16).toNat = b.length - 16 := by omega
        have em : (max ((b.length : Int) - 16) 0).toNat = b.length - 16 := by omega
        rw [em] at q6
        have sl := strm_length k c (b.length - 16); have lt : (b.take (b.length - 16)).length = b.length - 16 := by rw [List.length_take]; omega
        have sg := signB_length c (b.take (b.length - 16)); have hS := cf_signed (c := c) (b := b.take (b.length - 16)) (by omega)
        have hR := right_cf (k := k) (b := signB c (b.take (b.length - 16))) (t := b.drop (b.length - 16)) q1 (by omega)
        have hM := cf_mixed (a := b.take (b.length - 16)) (b := strR k c (max ((b.length : Int) - 16) 0)) (by rw [q6, sl, lt]; exact Nat.le_refl _) (by omega)
        refine ⟨[0, 0, 0, 0, 12, 30, 0, 0, 192, 511, 1023, 2047, 2047, 4095, 16383], by kernel_rfl, ?_⟩
        repeat (refine Ob.mk ?_ ?_; focus (omega))
        refine ⟨_, _, _, _, hS, ?_⟩
        repeat (refine Ob.mk ?_ ?_; (focus (first | (exact Eq.refl _) | omega | (simp_all [openR, openE, openB]; done))))
        refine ⟨_, _, _, _, hR, ?_⟩
        repeat (refine Ob.mk ?_ ?_; (focus (first | (exact Eq.refl _) | (simp_all [openR, openE, openB]; done))))
        refine ⟨fun h4 => ?_, fun h4 => ?_⟩
        · skip
          have c4 := h4
          (simp only [Bool.not_eq_true', Bool.not_eq_false', Bool.not_true, Bool.not_false, Bool.and_eq_true, Bool.or_eq_true, Bool.and_eq_false_iff, Bool.or_eq_false_iff, Bool.not_not, beq_true, beq_false, decide_eq_true_eq, decide_eq_false_iff_not] at c4)
          repeat (refine Ob.mk ?_ ?_; (focus (((simp_all [openR, openE, openB]; omega)))))
          trivial
        · skip
          have c4 := h4
          (simp only [Bool.not_eq_true', Bool.not_eq_false', Bool.not_true, Bool.not_false, Bool.and_eq_true, Bool.or_eq_true, Bool.and_eq_false_iff, Bool.or_eq_false_iff, Bool.not_not, beq_true, beq_false, decide_eq_true_eq, decide_eq_false_iff_not] at c4)
          repeat (refine Ob.mk ?_ ?_; focus (omega))
          refine ⟨_, _, _, _, hM, ?_⟩
          repeat (refine Ob.mk ?_ ?_; (focus (first | (rw [q6]; exact (openR_ok c1 c2 c3 c4).2.symm) | (exact Eq.refl _) | (simp_all [openR, openE, openB]; done) | (simp_all [openR, openE, openB]; omega))))
          trivial
theorem stream_cf {k : List UInt8} {c n : Int} (h : hexC k = 0) (h1 : 0 ≤ c) (h2 : c ≤ 1099511627776) (h3 : 0 ≤ n) (h4 : n ≤ 232) : Cf Try.prog 35 [] [.s k, .i c, .i n] [] (.tup [.bs (strm k c n.toNat), .i 0]) := by
  have q := cf_Stream (k := k) (c := c) (n := n)
  obtain ⟨t1, t2⟩ := str_ok h h1 h2 h3 h4
  rw [t1, t2] at q; exact q
theorem seal_cf {k b : List UInt8} {c : Int} (h : hexC k = 0) (h1 : 0 ≤ c) (h2 : c ≤ 1099511627776) (h3 : b.length ≤ 220) : Cf Try.prog 36 [] [.s k, .i c, .bs b] [] (.tup [.bs (sealS k c b), .i 0]) := by
  have q := cf_Seal (k := k) (c := c) (b := b) (by omega)
  obtain ⟨t1, t2⟩ := seal_ok h h1 h2 h3
  rw [t1, t2] at q; exact q
theorem open_cf {k b : List UInt8} {c : Int} (h : hexC k = 0) (h1 : 0 ≤ c) (h2 : c ≤ 1099511627776) (h3 : b.length ≤ 220) : Cf Try.prog 37 [] [.s k, .i c, .bs (sealS k c b)] [] (.tup [.bs b, .i 0]) := by
  have q := cf_Open (k := k) (c := c) (b := sealS k c b) (by rw [sealS_length]; omega)
  obtain ⟨t1, t2⟩ := open_seal h h1 h2 h3
  rw [t1, t2] at q; exact q
end Go.Proofs.Ytpcagbfnddgjpaa
