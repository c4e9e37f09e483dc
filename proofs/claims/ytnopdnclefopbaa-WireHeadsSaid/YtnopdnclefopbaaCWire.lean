/- package wire: contracts (what each function computes). -/
import Derived.Test.YtnopdnclefopbaaTab
import Derived.Test.YtnopdnclefopbaaWireF
namespace Go.Proofs.Ytnopdnclefopbaa
open Go.RowKit
set_option linter.unusedVariables false
set_option linter.unusedSimpArgs false

set_option maxRecDepth 100000 in
set_option maxHeartbeats 4000000 in
theorem cf_bytesClone {l : List UInt8} (hl : l.length ≤ 100000000) : Cf Try.prog 56 [] [.bs l] [(60, .rb l 5 0)] (.osl 60 l.length) := by
  refine Cf.introR tabT {own := [(2, 5)]} D0 (by kernel_rfl) tab_ok Try.func56 Try.ntmps56 rfl rfl (D0_ok) (by kernel_rfl) ?_
  refine fun g1 hg1 => ?_
  refine ⟨fun h2 => ?_, fun h2 => ?_⟩
  · skip
    have c2 := h2
    have hm0 := hg1 h2; obtain rfl : l = [] := List.eq_nil_of_length_eq_zero (by omega)
    repeat (refine Ob.mk ?_ ?_; focus (first | (exact Eq.refl _) | omega))
    trivial
  · skip
    have c2 := h2
    repeat (refine Ob.mk ?_ ?_; (focus (first | (exact Eq.refl _) | (exact Nat.le_of_ble_eq_true rfl) | (simp only [SrcE.len, Nat.zero_add, List.length_append, List.length_cons, List.length_nil]; first | done | omega))))
    trivial
set_option maxRecDepth 100000 in
set_option maxHeartbeats 4000000 in
theorem cf_of {t : Int} : Cf Try.prog 63 [] [.i t] [] (.tup [.agg [.i (wLeast t), .i (wMost t), .b (wSnd t), .b (wRcv t), .b (wCnt t)], .b (wIs t)]) := by
  refine Cf.introR tabT {} D0 (by kernel_rfl) tab_ok Try.func63 Try.ntmps63 rfl rfl (D0_ok) (by kernel_rfl) ?_
  refine ⟨fun h1 => ?_, fun h1 => ?_⟩
  · skip
    have c1 := h1
    (simp only [Bool.not_eq_true', Bool.not_eq_false', Bool.not_true, Bool.not_false, Bool.and_eq_true, Bool.or_eq_true, Bool.and_eq_false_iff, Bool.or_eq_false_iff, Bool.not_not, beq_true, beq_false, decide_eq_true_eq, decide_eq_false_iff_not] at c1)
    repeat (refine Ob.mk ?_ ?_; (focus (((simp_all [wLeast, wMost, wSnd, wRcv, wCnt, wIs]; done)))))
    trivial
  · skip
    have c1 := h1
    (simp only [Bool.not_eq_true', Bool.not_eq_false', Bool.not_true, Bool.not_false, Bool.and_eq_true, Bool.or_eq_true, Bool.and_eq_false_iff, Bool.or_eq_false_iff, Bool.not_not, beq_true, beq_false, decide_eq_true_eq, decide_eq_false_iff_not] at c1)
    refine ⟨fun h2 => ?_, fun h2 => ?_⟩
    · skip
      have c2 := h2
      (simp only [Bool.not_eq_true', Bool.not_eq_false', Bool.not_true, Bool.not_false, Bool.and_eq_true, Bool.or_eq_true, Bool.and_eq_false_iff, Bool.or_eq_false_iff, Bool.not_not, beq_true, beq_false, decide_eq_true_eq, decide_eq_false_iff_not] at c2)
      repeat (refine Ob.mk ?_ ?_; (focus (((simp_all [wLeast, wMost, wSnd, wRcv, wCnt, wIs]; done)))))
      trivial
    · skip
      have c2 := h2
      (simp only [Bool.not_eq_true', Bool.not_eq_false', Bool.not_true, Bool.not_false, Bool.and_eq_true, Bool.or_eq_true, Bool.and_eq_false_iff, Bool.or_eq_false_iff, Bool.not_not, beq_true, beq_false, decide_eq_true_eq, decide_eq_false_iff_not] at c2)
      refine ⟨fun h3 => ?_, fun h3 => ?_⟩
      · skip
        have c3 := h3
        (simp only [Bool.not_eq_true', Bool.not_eq_false', Bool.not_true, Bool.not_false, Bool.and_eq_true, Bool.or_eq_true, Bool.and_eq_false_iff, Bool.or_eq_false_iff, Bool.not_not, beq_true, beq_false, decide_eq_true_eq, decide_eq_false_iff_not] at c3)
        repeat (refine Ob.mk ?_ ?_; (focus (((simp_all [wLeast, wMost, wSnd, wRcv, wCnt, wIs]; done)))))
        trivial
      · skip
        have c3 := h3
        (simp only [Bool.not_eq_true', Bool.not_eq_false', Bool.not_true, Bool.not_false, Bool.and_eq_true, Bool.or_eq_true, Bool.and_eq_false_iff, Bool.or_eq_false_iff, Bool.not_not, beq_true, beq_false, decide_eq_true_eq, decide_eq_false_iff_not] at c3)
        repeat (refine Ob.mk ?_ ?_; (focus (((simp_all [wLeast, wMost, wSnd, wRcv, wCnt, wIs]; done)))))
        trivial
set_option maxRecDepth 100000 in
set_option maxHeartbeats 4000000 in
theorem cf_wCheck {t s r c : Int} {l : List UInt8} : Cf Try.prog 62 [] [.agg [.i t, .i s, .i r, .i c, .bs l]] [] (.i (wChk t s r c l.length)) := by
  refine Cf.introR tabT {} D0 (by kernel_rfl) tab_ok Try.func62 Try.ntmps62 rfl rfl (D0_ok) (by kernel_rfl) ?_
  refine ⟨_, _, _, _, (@cf_of ?_), ?_⟩
  rotate_left 1
  repeat (refine Ob.mk ?_ ?_; focus ((exact Eq.refl _)))
  refine ⟨fun h1 => ?_, fun h1 => ?_⟩
  · skip
    have c1 := h1
    (simp only [Bool.not_eq_true', Bool.not_eq_false', Bool.not_true, Bool.not_false, Bool.and_eq_true, Bool.or_eq_true, Bool.and_eq_false_iff, Bool.or_eq_false_iff, Bool.not_not, beq_true, beq_false, decide_eq_true_eq, decide_eq_false_iff_not] at c1)
    repeat (refine Ob.mk ?_ ?_; (focus (((simp only [wChk, h1, cond_true, cond_false, Bool.not_true, Bool.not_false, Bool.and_true, Bool.true_and, Bool.and_false, Bool.false_and, Bool.or_true, Bool.true_or, Bool.or_false, Bool.false_or, Int.reduceToNat, UInt8.reduceOfNat]; done)))))
    trivial
  · skip
    have c1 := h1
    (simp only [Bool.not_eq_true', Bool.not_eq_false', Bool.not_true, Bool.not_false, Bool.and_eq_true, Bool.or_eq_true, Bool.and_eq_false_iff, Bool.or_eq_false_iff, Bool.not_not, beq_true, beq_false, decide_eq_true_eq, decide_eq_false_iff_not] at c1)
    repeat (refine Ob.mk ?_ ?_; (focus (first | (exact fun hg => beq_t hg) | (exact fun hg => beq_f hg) | (exact fun hg => hg) | (intro hg; ((intro hq; exact and_i hg (beq_t hq)))))))
    refine ⟨fun h2 => ?_, fun h2 => ?_⟩
    · skip
      have c2 := h2
      (simp only [Bool.not_eq_true', Bool.not_eq_false', Bool.not_true, Bool.not_false, Bool.and_eq_true, Bool.or_eq_true, Bool.and_eq_false_iff, Bool.or_eq_false_iff, Bool.not_not, beq_true, beq_false, decide_eq_true_eq, decide_eq_false_iff_not] at c2)
      repeat (refine Ob.mk ?_ ?_; (focus (((simp only [wChk, h1, h2, cond_true, cond_false, Bool.not_true, Bool.not_false, Bool.and_true, Bool.true_and, Bool.and_false, Bool.false_and, Bool.or_true, Bool.true_or, Bool.or_false, Bool.false_or, Int.reduceToNat, UInt8.reduceOfNat]; done)))))
      trivial
    · skip
      have c2 := h2
      (simp only [Bool.not_eq_true', Bool.not_eq_false', Bool.not_true, Bool.not_false, Bool.and_eq_true, Bool.or_eq_true, Bool.and_eq_false_iff, Bool.or_eq_false_iff, Bool.not_not, beq_true, beq_false, decide_eq_true_eq, decide_eq_false_iff_not] at c2)
      repeat (refine Ob.mk ?_ ?_; focus (first | (exact fun hg => beq_f hg) | (exact fun hg => hg)))
      refine ⟨fun h3 => ?_, fun h3 => ?_⟩
      · skip
        have c3 := h3
        (simp only [Bool.not_eq_true', Bool.not_eq_false', Bool.not_true, Bool.not_false, Bool.and_eq_true, Bool.or_eq_true, Bool.and_eq_false_iff, Bool.or_eq_false_iff, Bool.not_not, beq_true, beq_false, decide_eq_true_eq, decide_eq_false_iff_not] at c3)
        repeat (refine Ob.mk ?_ ?_; (focus (((simp only [wChk, h1, h2, h3, cond_true, cond_false, Bool.not_true, Bool.not_false, Bool.and_true, Bool.true_and, Bool.and_false, Bool.false_and, Bool.or_true, Bool.true_or, Bool.or_false, Bool.false_or, Int.reduceToNat, UInt8.reduceOfNat]; done)))))
        trivial
      · skip
        have c3 := h3
        (simp only [Bool.not_eq_true', Bool.not_eq_false', Bool.not_true, Bool.not_false, Bool.and_eq_true, Bool.or_eq_true, Bool.and_eq_false_iff, Bool.or_eq_false_iff, Bool.not_not, beq_true, beq_false, decide_eq_true_eq, decide_eq_false_iff_not] at c3)
        repeat (refine Ob.mk ?_ ?_; focus (first | (exact fun hg => beq_f hg) | (exact fun hg => hg)))
        refine ⟨fun h4 => ?_, fun h4 => ?_⟩
        · skip
          have c4 := h4
          (simp only [Bool.not_eq_true', Bool.not_eq_false', Bool.not_true, Bool.not_false, Bool.and_eq_true, Bool.or_eq_true, Bool.and_eq_false_iff, Bool.or_eq_false_iff, Bool.not_not, beq_true, beq_false, decide_eq_true_eq, decide_eq_false_iff_not] at c4)
          repeat (refine Ob.mk ?_ ?_; (focus (((simp only [wChk, h1, h2, h3, h4, cond_true, cond_false, Bool.not_true, Bool.not_false, Bool.and_true, Bool.true_and, Bool.and_false, Bool.false_and, Bool.or_true, Bool.true_or, Bool.or_false, Bool.false_or, Int.reduceToNat, UInt8.reduceOfNat]; done)))))
          trivial
        · skip
          have c4 := h4
          (simp only [Bool.not_eq_true', Bool.not_eq_false', Bool.not_true, Bool.not_false, Bool.and_eq_true, Bool.or_eq_true, Bool.and_eq_false_iff, Bool.or_eq_false_iff, Bool.not_not, beq_true, beq_false, decide_eq_true_eq, decide_eq_false_iff_not] at c4)
          repeat (refine Ob.mk ?_ ?_; (focus (((simp only [wChk, h1, h2, h3, h4, cond_true, cond_false, Bool.not_true, Bool.not_false, Bool.and_true, Bool.true_and, Bool.and_false, Bool.false_and, Bool.or_true, Bool.true_or, Bool.or_false, Bool.false_or, Int.reduceToNat, UInt8.reduceOfNat]; done)))))
          trivial
set_option maxRecDepth 100000 in
set_option maxHeartbeats 4000000 in
theorem cf_put {l : List UInt8} {n : Int} {m : Nat} (hl : l.length ≤ 1000) (hm : m ≤ 8) (hn : 0 ≤ n) (hn2 : n ≤ 9223372036854775807) : Cf Try.prog 64 [(0, .rb l 5 0)] [.osl 0 l.length, .i n, .i (m : Int)] [(60, .rb (l ++ leB m n) 5 0)] (.osl 60 (l.length + m)) := by
  refine Cf.introR tabT {} D0 (by kernel_rfl) tab_ok Try.func64 Try.ntmps64 rfl rfl (D0_ok) (by kernel_rfl) ?_
  refine ⟨Nat, fun k => ⟨[(0, .osl 60 (l.length + k)), (1, .i (n / 256 ^ k)), (7, .i (m : Int)), (8, .i (k : Int))], [(60, .rb (l ++ leB k n) 5 0)]⟩, fun k => k ≤ m, fun k => m - k, 0, by simp, ?_, fun k hx1 => ?_⟩
  · skip
    repeat (refine Ob.mk ?_ ?_; (focus (((simp [leB, leB_length]; done)))))
    trivial
  refine ⟨fun h1 => ?_, fun h1 => ?_⟩
  · skip
    have c1 := h1
    (simp only [Bool.not_eq_true', Bool.not_eq_false', Bool.not_true, Bool.not_false, Bool.and_eq_true, Bool.or_eq_true, Bool.and_eq_false_iff, Bool.or_eq_false_iff, Bool.not_not, beq_true, beq_false, decide_eq_true_eq, decide_eq_false_iff_not] at c1)
    repeat (refine Ob.mk ?_ ?_; (focus (first | (simp [leB, leB_length]; done) | omega | (simp only [SrcE.len, Nat.zero_add, List.length_append, List.length_cons, List.length_nil]; omega))))
    have e1 : n / 256 ^ k / 256 = n / 256 ^ (k + 1) := by rw [Int.ediv_ediv_of_nonneg (Int.le_of_lt (Int.pow_pos (by decide))), Int.pow_succ]
    refine ⟨k + 1, (by omega), (by (simp only [SrcE.len, Nat.zero_add, List.length_append, List.length_cons, List.length_nil]; omega)), ?_⟩
    repeat (refine Ob.mk ?_ ?_; (focus (first | (simp [leB, leB_length]; done) | (simp [leB, leB_length]; omega) | (exact Eq.refl _) | (exact Nat.le_of_ble_eq_true rfl))))
    trivial
  · skip
    have c1 := h1
    (simp only [Bool.not_eq_true', Bool.not_eq_false', Bool.not_true, Bool.not_false, Bool.and_eq_true, Bool.or_eq_true, Bool.and_eq_false_iff, Bool.or_eq_false_iff, Bool.not_not, beq_true, beq_false, decide_eq_true_eq, decide_eq_false_iff_not] at c1)
    obtain rfl : k = m := by omega
    repeat (refine Ob.mk ?_ ?_; (focus (((simp [leB, leB_length]; done)))))
    trivial
set_option maxRecDepth 100000 in
set_option maxHeartbeats 4000000 in
theorem cf_wEncode {t s r c : Int} {l : List UInt8} (hl : l.length ≤ 1000000) : Cf Try.prog 44 [] [.agg [.i t, .i s, .i r, .i c, .bs l]] [] (.tup [.bs (bif decide (wChk t s r c l.length = 0) then wEnc t s r c l else []), .i (wChk t s r c l.length)]) := by
  refine Cf.introR tabT {} (DR _ _ _ tabT {}) (by kernel_rfl) tab_ok Try.func44 Try.ntmps44 rfl rfl (DR_ok tab_ok (by kernel_rfl)) (by kernel_rfl) ?_
  refine ⟨_, _, _, _, (@cf_wCheck ?_ ?_ ?_ ?_ ?_), ?_⟩
  rotate_left 5
  repeat (refine Ob.mk ?_ ?_; focus ((exact Eq.refl _)))
  refine ⟨fun h1 => ?_, fun h1 => ?_⟩
  · skip
    have c1 := h1
    (simp only [Bool.not_eq_true', Bool.not_eq_false', Bool.not_true, Bool.not_false, Bool.and_eq_true, Bool.or_eq_true, Bool.and_eq_false_iff, Bool.or_eq_false_iff, Bool.not_not, beq_true, beq_false, decide_eq_true_eq, decide_eq_false_iff_not] at c1)
    repeat (refine Ob.mk ?_ ?_; (focus (((simp_all [wEnc, leB_length]; done)))))
    trivial
  · skip
    have c1 := h1
    (simp only [Bool.not_eq_true', Bool.not_eq_false', Bool.not_true, Bool.not_false, Bool.and_eq_true, Bool.or_eq_true, Bool.and_eq_false_iff, Bool.or_eq_false_iff, Bool.not_not, beq_true, beq_false, decide_eq_true_eq, decide_eq_false_iff_not] at c1)
    have c1 := wChk_ok c1
    refine ⟨_, _, _, _, (@cf_of ?_), ?_⟩
    rotate_left 1
    repeat (refine Ob.mk ?_ ?_; focus ((exact Eq.refl _)))
    refine ⟨fun h2 => ?_, fun h2 => ?_⟩
    · skip
      have c2 := h2
      refine ⟨_, _, _, _, (@cf_put ?_ ?_ ?_ ?_ ?_ ?_ ?_), ?_⟩
      rotate_left 7
      repeat (refine Ob.mk ?_ ?_; first | focus (first | (simp_all [wEnc, leB_length]; done) | (exact Eq.refl _)) | rotate_left)
      refine ⟨fun h3 => ?_, fun h3 => ?_⟩
      · skip
        have c3 := h3
        refine ⟨_, _, _, _, (@cf_put ?_ ?_ ?_ ?_ ?_ ?_ ?_), ?_⟩
        rotate_left 7
        repeat (refine Ob.mk ?_ ?_; first | focus (first | (simp_all [wEnc, leB_length]; done) | (exact Eq.refl _)) | rotate_left)
        refine ⟨fun h4 => ?_, fun h4 => ?_⟩
        · skip
          have c4 := h4
          refine ⟨_, _, _, _, (@cf_put ?_ ?_ ?_ ?_ ?_ ?_ ?_), ?_⟩
          rotate_left 7
          repeat (refine Ob.mk ?_ ?_; first | focus (first | (simp_all [wEnc, leB_length]; done) | (exact Eq.refl _)) | rotate_left)
          refine ⟨[0, 1, 0, 4, 15, 31, 63], by kernel_rfl, ?_⟩
          refine ⟨_, _, _, _, (@cf_bytesClone ?_ ?_), ?_⟩
          rotate_left 2
          repeat (refine Ob.mk ?_ ?_; (focus (first | (simp_all [wEnc, leB_length]; done) | (simp [SrcE.len, leB_length]; omega) | (exact Eq.refl _))))
          trivial
          all_goals (first | (simp_all [wEnc, leB_length]; done) | (simp_all [wEnc, leB_length]; omega))
        · skip
          have c4 := h4
          refine ⟨[0, 1, 0, 4, 15, 31, 63], by kernel_rfl, ?_⟩
          refine ⟨_, _, _, _, (@cf_bytesClone ?_ ?_), ?_⟩
          rotate_left 2
          repeat (refine Ob.mk ?_ ?_; (focus (first | (simp_all [wEnc, leB_length]; done) | (simp [SrcE.len, leB_length]; omega) | (exact Eq.refl _))))
          trivial
          all_goals (((simp_all [wEnc, leB_length]; done)))
        all_goals (first | (simp_all [wEnc, leB_length]; done) | (simp_all [wEnc, leB_length]; omega))
      · skip
        have c3 := h3
        refine ⟨fun h5 => ?_, fun h5 => ?_⟩
        · skip
          have c5 := h5
          refine ⟨_, _, _, _, (@cf_put ?_ ?_ ?_ ?_ ?_ ?_ ?_), ?_⟩
          rotate_left 7
          repeat (refine Ob.mk ?_ ?_; first | focus (first | (simp_all [wEnc, leB_length]; done) | (exact Eq.refl _)) | rotate_left)
          refine ⟨[0, 1, 0, 4, 15, 31, 63], by kernel_rfl, ?_⟩
          refine ⟨_, _, _, _, (@cf_bytesClone ?_ ?_), ?_⟩
          rotate_left 2
          repeat (refine Ob.mk ?_ ?_; (focus (first | (simp_all [wEnc, leB_length]; done) | (simp [SrcE.len, leB_length]; omega) | (exact Eq.refl _))))
          trivial
          all_goals (first | (simp_all [wEnc, leB_length]; done) | (simp_all [wEnc, leB_length]; omega))
        · skip
          have c5 := h5
          refine ⟨[0, 1, 0, 4, 15, 31, 63], by kernel_rfl, ?_⟩
          refine ⟨_, _, _, _, (@cf_bytesClone ?_ ?_), ?_⟩
          rotate_left 2
          repeat (refine Ob.mk ?_ ?_; (focus (first | (simp_all [wEnc, leB_length]; done) | (simp [SrcE.len, leB_length]; omega) | (exact Eq.refl _))))
          trivial
          all_goals (((simp_all [wEnc, leB_length]; done)))
      all_goals (first | (simp_all [wEnc, leB_length]; done) | (simp_all [wEnc, leB_length]; omega))
    · skip
      have c2 := h2
      refine ⟨fun h6 => ?_, fun h6 => ?_⟩
      · skip
        have c6 := h6
        refine ⟨_, _, _, _, (@cf_put ?_ ?_ ?_ ?_ ?_ ?_ ?_), ?_⟩
        rotate_left 7
        repeat (refine Ob.mk ?_ ?_; first | focus (first | (simp_all [wEnc, leB_length]; done) | (exact Eq.refl _)) | rotate_left)
        refine ⟨fun h7 => ?_, fun h7 => ?_⟩
        · skip
          have c7 := h7
          refine ⟨_, _, _, _, (@cf_put ?_ ?_ ?_ ?_ ?_ ?_ ?_), ?_⟩
          rotate_left 7
          repeat (refine Ob.mk ?_ ?_; first | focus (first | (simp_all [wEnc, leB_length]; done) | (exact Eq.refl _)) | rotate_left)
          refine ⟨[0, 1, 0, 4, 15, 31, 63], by kernel_rfl, ?_⟩
          refine ⟨_, _, _, _, (@cf_bytesClone ?_ ?_), ?_⟩
          rotate_left 2
          repeat (refine Ob.mk ?_ ?_; (focus (first | (simp_all [wEnc, leB_length]; done) | (simp [SrcE.len, leB_length]; omega) | (exact Eq.refl _))))
          trivial
          all_goals (first | (simp_all [wEnc, leB_length]; done) | (simp_all [wEnc, leB_length]; omega))
        · skip
          have c7 := h7
          refine ⟨[0, 1, 0, 4, 15, 31, 63], by kernel_rfl, ?_⟩
          refine ⟨_, _, _, _, (@cf_bytesClone ?_ ?_), ?_⟩
          rotate_left 2
          repeat (refine Ob.mk ?_ ?_; (focus (first | (simp_all [wEnc, leB_length]; done) | (simp [SrcE.len, leB_length]; omega) | (exact Eq.refl _))))
          trivial
          all_goals (((simp_all [wEnc, leB_length]; done)))
        all_goals (first | (simp_all [wEnc, leB_length]; done) | (simp_all [wEnc, leB_length]; omega))
      · skip
        have c6 := h6
        refine ⟨fun h8 => ?_, fun h8 => ?_⟩
        · skip
          have c8 := h8
          refine ⟨_, _, _, _, (@cf_put ?_ ?_ ?_ ?_ ?_ ?_ ?_), ?_⟩
          rotate_left 7
          repeat (refine Ob.mk ?_ ?_; first | focus (first | (simp_all [wEnc, leB_length]; done) | (exact Eq.refl _)) | rotate_left)
          refine ⟨[0, 1, 0, 4, 15, 31, 63], by kernel_rfl, ?_⟩
          refine ⟨_, _, _, _, (@cf_bytesClone ?_ ?_), ?_⟩
          rotate_left 2
          repeat (refine Ob.mk ?_ ?_; (focus (first | (simp_all [wEnc, leB_length]; done) | (simp [SrcE.len, leB_length]; omega) | (exact Eq.refl _))))
          trivial
          all_goals (first | (simp_all [wEnc, leB_length]; done) | (simp_all [wEnc, leB_length]; omega))
        · skip
          have c8 := h8
          refine ⟨[0, 1, 0, 4, 15, 31, 63], by kernel_rfl, ?_⟩
          refine ⟨_, _, _, _, (@cf_bytesClone ?_ ?_), ?_⟩
          rotate_left 2
          repeat (refine Ob.mk ?_ ?_; (focus (first | (simp_all [wEnc, leB_length]; done) | (simp [SrcE.len, leB_length]; omega) | (exact Eq.refl _))))
          trivial
          all_goals (((simp_all [wEnc, leB_length]; done)))
set_option maxRecDepth 100000 in
set_option maxHeartbeats 4000000 in
theorem cf_number {l : List UInt8} {sh : Bool} {m : Nat} (hm : m ≤ 8) (hl : l.length ≤ 1000000) : Cf Try.prog 65 [(0, .box [.bs l, .b sh] 113)] [.own 0 0, .i (m : Int)] [(0, .box [.bs (wNum m (sh, l)).2.2, .b (wNum m (sh, l)).2.1] 113)] (.i (wNum m (sh, l)).1) := by
  refine Cf.introR tabT {} D0 (by kernel_rfl) tab_ok Try.func65 Try.ntmps65 rfl rfl (D0_ok) (by kernel_rfl) ?_
  repeat (refine Ob.mk ?_ ?_; (focus (((simp [nB, unle, IntKind.wrap_i64]; done)))))
  refine ⟨fun h1 => ?_, fun h1 => ?_⟩
  · skip
    have c1 := h1
    (simp only [Bool.not_eq_true', Bool.not_eq_false', Bool.not_true, Bool.not_false, Bool.and_eq_true, Bool.or_eq_true, Bool.and_eq_false_iff, Bool.or_eq_false_iff, Bool.not_not, beq_true, beq_false, decide_eq_true_eq, decide_eq_false_iff_not] at c1)
    repeat (refine Ob.mk ?_ ?_; (focus (((simp only [wNum, h1, cond_true, cond_false, Bool.not_true, Bool.not_false, Bool.and_true, Bool.true_and, Bool.and_false, Bool.false_and, Bool.or_true, Bool.true_or, Bool.or_false, Bool.false_or, Int.reduceToNat, UInt8.reduceOfNat]; done)))))
    trivial
  · skip
    have c1 := h1
    (simp only [Bool.not_eq_true', Bool.not_eq_false', Bool.not_true, Bool.not_false, Bool.and_eq_true, Bool.or_eq_true, Bool.and_eq_false_iff, Bool.or_eq_false_iff, Bool.not_not, beq_true, beq_false, decide_eq_true_eq, decide_eq_false_iff_not] at c1)
    repeat (refine Ob.mk ?_ ?_; focus (omega))
    refine ⟨Nat, fun j => ⟨[(0, .own 0 0), (1, .i (m : Int)), (5, .i (nB ((l.take m).drop (m - j)))), (6, .i ((m : Int) - 1 - j))], [(0, .box [.bs l, .b (sh || decide ((l.length : Int) < m))] 113)]⟩, fun j => j ≤ m, fun j => m - j, 0, by simp, ?_, fun j hx1 => ?_⟩
    · skip
      repeat (refine Ob.mk ?_ ?_; (focus (((simp [nB, unle, IntKind.wrap_i64]; done)))))
      trivial
    refine ⟨fun h2 => ?_, fun h2 => ?_⟩
    · skip
      have c2 := h2
      (simp only [Bool.not_eq_true', Bool.not_eq_false', Bool.not_true, Bool.not_false, Bool.and_eq_true, Bool.or_eq_true, Bool.and_eq_false_iff, Bool.or_eq_false_iff, Bool.not_not, beq_true, beq_false, decide_eq_true_eq, decide_eq_false_iff_not] at c2)
      repeat (refine Ob.mk ?_ ?_; (focus (first | (simp [nB, unle, IntKind.wrap_i64]; done) | omega)))
      have e5 := (nB_step (unle ((l.take m).drop (m - j))) (l.getD (((m : Int) - 1 - j).toNat * 1) 0)).trans (nB_next (l := l) (m := m) (j := j) (by omega) (by omega)).symm
      simp only [Nat.mul_one] at e5
      refine ⟨j + 1, (by omega), (by (simp only [SrcE.len, Nat.zero_add, List.length_append, List.length_cons, List.length_nil]; omega)), ?_⟩
      repeat (refine Ob.mk ?_ ?_; (focus (first | (exact e5) | (simp [nB, unle, IntKind.wrap_i64]; done) | omega)))
      trivial
    · skip
      have c2 := h2
      (simp only [Bool.not_eq_true', Bool.not_eq_false', Bool.not_true, Bool.not_false, Bool.and_eq_true, Bool.or_eq_true, Bool.and_eq_false_iff, Bool.or_eq_false_iff, Bool.not_not, beq_true, beq_false, decide_eq_true_eq, decide_eq_false_iff_not] at c2)
      obtain rfl : j = m := by omega
      repeat (refine Ob.mk ?_ ?_; (focus (first | (obtain ⟨c1a, c1b⟩ := c1; have hj : decide (l.length < j) = false := decide_eq_false (by omega); simp [wNum, c1a, hj, nB]; done) | omega)))
      trivial
set_option maxRecDepth 100000 in
set_option maxHeartbeats 4000000 in
theorem cf_wDecode {l : List UInt8} (hl : l.length ≤ 1000000) : Cf Try.prog 45 [] [.bs l] [] (.tup [.agg [.i (wDec l).1, .i (wDec l).2.1, .i (wDec l).2.2.1, .i (wDec l).2.2.2.1, .bs (wDec l).2.2.2.2.1], .i (wDec l).2.2.2.2.2]) := by
  refine Cf.introR tabT {} D0 (by kernel_rfl) tab_ok Try.func45 Try.ntmps45 rfl rfl (D0_ok) (by kernel_rfl) ?_
  refine ⟨fun h1 => ?_, fun h1 => ?_⟩
  · skip
    have c1 := h1
    (simp only [Bool.not_eq_true', Bool.not_eq_false', Bool.not_true, Bool.not_false, Bool.and_eq_true, Bool.or_eq_true, Bool.and_eq_false_iff, Bool.or_eq_false_iff, Bool.not_not, beq_true, beq_false, decide_eq_true_eq, decide_eq_false_iff_not] at c1)
    repeat (refine Ob.mk ?_ ?_; (focus (((simp only [wDec, wTake, pair_eta, h1, cond_true, cond_false, Bool.not_true, Bool.not_false, Bool.and_true, Bool.true_and, Bool.and_false, Bool.false_and, Bool.or_true, Bool.true_or, Bool.or_false, Bool.false_or, Int.reduceToNat, UInt8.reduceOfNat]; done)))))
    trivial
  · skip
    have c1 := h1
    (simp only [Bool.not_eq_true', Bool.not_eq_false', Bool.not_true, Bool.not_false, Bool.and_eq_true, Bool.or_eq_true, Bool.and_eq_false_iff, Bool.or_eq_false_iff, Bool.not_not, beq_true, beq_false, decide_eq_true_eq, decide_eq_false_iff_not] at c1)
    repeat (refine Ob.mk ?_ ?_; focus (omega))
    refine ⟨_, _, _, _, (@cf_of ?_), ?_⟩
    rotate_left 1
    repeat (refine Ob.mk ?_ ?_; focus ((exact Eq.refl _)))
    refine ⟨fun h2 => ?_, fun h2 => ?_⟩
    · skip
      (simp only [Int.reduceToNat, UInt8.reduceOfNat] at h2)
      have c2 := h2
      (simp only [Bool.not_eq_true', Bool.not_eq_false', Bool.not_true, Bool.not_false, Bool.and_eq_true, Bool.or_eq_true, Bool.and_eq_false_iff, Bool.or_eq_false_iff, Bool.not_not, beq_true, beq_false, decide_eq_true_eq, decide_eq_false_iff_not] at c2)
      repeat (refine Ob.mk ?_ ?_; (focus (((simp only [wDec, wTake, pair_eta, h1, h2, cond_true, cond_false, Bool.not_true, Bool.not_false, Bool.and_true, Bool.true_and, Bool.and_false, Bool.false_and, Bool.or_true, Bool.true_or, Bool.or_false, Bool.false_or, Int.reduceToNat, UInt8.reduceOfNat]; done)))))
      trivial
    · skip
      (simp only [Int.reduceToNat, UInt8.reduceOfNat] at h2)
      have c2 := h2
      (simp only [Bool.not_eq_true', Bool.not_eq_false', Bool.not_true, Bool.not_false, Bool.and_eq_true, Bool.or_eq_true, Bool.and_eq_false_iff, Bool.or_eq_false_iff, Bool.not_not, beq_true, beq_false, decide_eq_true_eq, decide_eq_false_iff_not] at c2)
      repeat (refine Ob.mk ?_ ?_; focus (first | omega | (exact fun hg => beq_f hg) | (exact fun hg => hg)))
      refine ⟨fun h3 => ?_, fun h3 => ?_⟩
      · skip
        (simp only [Int.reduceToNat, UInt8.reduceOfNat] at h3)
        have c3 := h3
        (simp only [Bool.not_eq_true', Bool.not_eq_false', Bool.not_true, Bool.not_false, Bool.and_eq_true, Bool.or_eq_true, Bool.and_eq_false_iff, Bool.or_eq_false_iff, Bool.not_not, beq_true, beq_false, decide_eq_true_eq, decide_eq_false_iff_not] at c3)
        repeat (refine Ob.mk ?_ ?_; (focus (((simp only [wDec, wTake, pair_eta, h1, h2, h3, cond_true, cond_false, Bool.not_true, Bool.not_false, Bool.and_true, Bool.true_and, Bool.and_false, Bool.false_and, Bool.or_true, Bool.true_or, Bool.or_false, Bool.false_or, Int.reduceToNat, UInt8.reduceOfNat]; done)))))
        trivial
      · skip
        (simp only [Int.reduceToNat, UInt8.reduceOfNat] at h3)
        have c3 := h3
        (simp only [Bool.not_eq_true', Bool.not_eq_false', Bool.not_true, Bool.not_false, Bool.and_eq_true, Bool.or_eq_true, Bool.and_eq_false_iff, Bool.or_eq_false_iff, Bool.not_not, beq_true, beq_false, decide_eq_true_eq, decide_eq_false_iff_not] at c3)
        repeat (refine Ob.mk ?_ ?_; focus (omega))
        refine ⟨fun h4 => ?_, fun h4 => ?_⟩
        · skip
          (simp only [Int.reduceToNat, UInt8.reduceOfNat] at h4)
          have c4 := h4
          refine ⟨_, _, _, _, (@cf_number ?_ ?_ ?_ ?_ ?_), ?_⟩
          rotate_left 5
          repeat (refine Ob.mk ?_ ?_; focus ((exact Eq.refl _)))
          refine ⟨fun h5 => ?_, fun h5 => ?_⟩
          · skip
            (simp only [Int.reduceToNat, UInt8.reduceOfNat] at h5)
            have c5 := h5
            refine ⟨_, _, _, _, (@cf_number ?_ ?_ ?_ ?_ ?_), ?_⟩
            rotate_left 5
            repeat (refine Ob.mk ?_ ?_; focus ((exact Eq.refl _)))
            refine ⟨fun h6 => ?_, fun h6 => ?_⟩
            · skip
              (simp only [Int.reduceToNat, UInt8.reduceOfNat] at h6)
              have c6 := h6
              refine ⟨_, _, _, _, (@cf_number ?_ ?_ ?_ ?_ ?_), ?_⟩
              rotate_left 5
              repeat (refine Ob.mk ?_ ?_; focus ((exact Eq.refl _)))
              refine ⟨fun h7 => ?_, fun h7 => ?_⟩
              · skip
                (simp only [Int.reduceToNat, UInt8.reduceOfNat] at h7)
                have c7 := h7
                repeat (refine Ob.mk ?_ ?_; (focus (((simp only [wDec, wTake, pair_eta, h1, h2, h3, h4, h5, h6, h7, cond_true, cond_false, Bool.not_true, Bool.not_false, Bool.and_true, Bool.true_and, Bool.and_false, Bool.false_and, Bool.or_true, Bool.true_or, Bool.or_false, Bool.false_or, Int.reduceToNat, UInt8.reduceOfNat]; done)))))
                trivial
              · skip
                (simp only [Int.reduceToNat, UInt8.reduceOfNat] at h7)
                have c7 := h7
                refine ⟨_, _, _, _, (@cf_bytesClone ?_ ?_), ?_⟩
                rotate_left 2
                repeat (refine Ob.mk ?_ ?_; focus ((exact Eq.refl _)))
                refine ⟨_, _, _, _, (@cf_wCheck ?_ ?_ ?_ ?_ ?_), ?_⟩
                rotate_left 5
                repeat (refine Ob.mk ?_ ?_; focus ((exact Eq.refl _)))
                refine ⟨fun h8 => ?_, fun h8 => ?_⟩
                · skip
                  (simp only [Int.reduceToNat, UInt8.reduceOfNat] at h8)
                  have c8 := h8
                  (simp only [Bool.not_eq_true', Bool.not_eq_false', Bool.not_true, Bool.not_false, Bool.and_eq_true, Bool.or_eq_true, Bool.and_eq_false_iff, Bool.or_eq_false_iff, Bool.not_not, beq_true, beq_false, decide_eq_true_eq, decide_eq_false_iff_not] at c8)
                  repeat (refine Ob.mk ?_ ?_; (focus (((simp only [wDec, wTake, pair_eta, h1, h2, h3, h4, h5, h6, h7, h8, cond_true, cond_false, Bool.not_true, Bool.not_false, Bool.and_true, Bool.true_and, Bool.and_false, Bool.false_and, Bool.or_true, Bool.true_or, Bool.or_false, Bool.false_or, Int.reduceToNat, UInt8.reduceOfNat]; done)))))
                  trivial
                · skip
                  (simp only [Int.reduceToNat, UInt8.reduceOfNat] at h8)
                  have c8 := h8
                  (simp only [Bool.not_eq_true', Bool.not_eq_false', Bool.not_true, Bool.not_false, Bool.and_eq_true, Bool.or_eq_true, Bool.and_eq_false_iff, Bool.or_eq_false_iff, Bool.not_not, beq_true, beq_false, decide_eq_true_eq, decide_eq_false_iff_not] at c8)
                  repeat (refine Ob.mk ?_ ?_; (focus (first | (exact Eq.refl _) | (simp only [wDec, wTake, pair_eta, h1, h2, h3, h4, h5, h6, h7, h8, cond_true, cond_false, Bool.not_true, Bool.not_false, Bool.and_true, Bool.true_and, Bool.and_false, Bool.false_and, Bool.or_true, Bool.true_or, Bool.or_false, Bool.false_or, Int.reduceToNat, UInt8.reduceOfNat]; done))))
                  trivial
                all_goals (((repeat (refine Nat.le_trans (wNum_len _ _) ?_)); (simp; omega)))
              all_goals (first | (repeat (refine Nat.le_trans (wNum_len _ _) ?_)); (simp; omega) | (exact Nat.le_of_ble_eq_true rfl))
            · skip
              (simp only [Int.reduceToNat, UInt8.reduceOfNat] at h6)
              have c6 := h6
              refine ⟨fun h9 => ?_, fun h9 => ?_⟩
              · skip
                (simp only [Int.reduceToNat, UInt8.reduceOfNat] at h9)
                have c9 := h9
                repeat (refine Ob.mk ?_ ?_; (focus (((simp only [wDec, wTake, pair_eta, h1, h2, h3, h4, h5, h6, h9, cond_true, cond_false, Bool.not_true, Bool.not_false, Bool.and_true, Bool.true_and, Bool.and_false, Bool.false_and, Bool.or_true, Bool.true_or, Bool.or_false, Bool.false_or, Int.reduceToNat, UInt8.reduceOfNat]; done)))))
                trivial
              · skip
                (simp only [Int.reduceToNat, UInt8.reduceOfNat] at h9)
                have c9 := h9
                refine ⟨_, _, _, _, (@cf_bytesClone ?_ ?_), ?_⟩
                rotate_left 2
                repeat (refine Ob.mk ?_ ?_; focus ((exact Eq.refl _)))
                refine ⟨_, _, _, _, (@cf_wCheck ?_ ?_ ?_ ?_ ?_), ?_⟩
                rotate_left 5
                repeat (refine Ob.mk ?_ ?_; focus ((exact Eq.refl _)))
                refine ⟨fun h10 => ?_, fun h10 => ?_⟩
                · skip
                  (simp only [Int.reduceToNat, UInt8.reduceOfNat] at h10)
                  have c10 := h10
                  (simp only [Bool.not_eq_true', Bool.not_eq_false', Bool.not_true, Bool.not_false, Bool.and_eq_true, Bool.or_eq_true, Bool.and_eq_false_iff, Bool.or_eq_false_iff, Bool.not_not, beq_true, beq_false, decide_eq_true_eq, decide_eq_false_iff_not] at c10)
                  repeat (refine Ob.mk ?_ ?_; (focus (((simp only [wDec, wTake, pair_eta, h1, h2, h3, h4, h5, h6, h9, h10, cond_true, cond_false, Bool.not_true, Bool.not_false, Bool.and_true, Bool.true_and, Bool.and_false, Bool.false_and, Bool.or_true, Bool.true_or, Bool.or_false, Bool.false_or, Int.reduceToNat, UInt8.reduceOfNat]; done)))))
                  trivial
                · skip
                  (simp only [Int.reduceToNat, UInt8.reduceOfNat] at h10)
                  have c10 := h10
                  (simp only [Bool.not_eq_true', Bool.not_eq_false', Bool.not_true, Bool.not_false, Bool.and_eq_true, Bool.or_eq_true, Bool.and_eq_false_iff, Bool.or_eq_false_iff, Bool.not_not, beq_true, beq_false, decide_eq_true_eq, decide_eq_false_iff_not] at c10)
                  repeat (refine Ob.mk ?_ ?_; (focus (first | (exact Eq.refl _) | (simp only [wDec, wTake, pair_eta, h1, h2, h3, h4, h5, h6, h9, h10, cond_true, cond_false, Bool.not_true, Bool.not_false, Bool.and_true, Bool.true_and, Bool.and_false, Bool.false_and, Bool.or_true, Bool.true_or, Bool.or_false, Bool.false_or, Int.reduceToNat, UInt8.reduceOfNat]; done))))
                  trivial
                all_goals (((repeat (refine Nat.le_trans (wNum_len _ _) ?_)); (simp; omega)))
            all_goals (first | (repeat (refine Nat.le_trans (wNum_len _ _) ?_)); (simp; omega) | (exact Nat.le_of_ble_eq_true rfl))
          · skip
            (simp only [Int.reduceToNat, UInt8.reduceOfNat] at h5)
            have c5 := h5
            refine ⟨fun h11 => ?_, fun h11 => ?_⟩
            · skip
              (simp only [Int.reduceToNat, UInt8.reduceOfNat] at h11)
              have c11 := h11
              refine ⟨_, _, _, _, (@cf_number ?_ ?_ ?_ ?_ ?_), ?_⟩
              rotate_left 5
              repeat (refine Ob.mk ?_ ?_; focus ((exact Eq.refl _)))
              refine ⟨fun h12 => ?_, fun h12 => ?_⟩
              · skip
                (simp only [Int.reduceToNat, UInt8.reduceOfNat] at h12)
                have c12 := h12
                repeat (refine Ob.mk ?_ ?_; (focus (((simp only [wDec, wTake, pair_eta, h1, h2, h3, h4, h5, h11, h12, cond_true, cond_false, Bool.not_true, Bool.not_false, Bool.and_true, Bool.true_and, Bool.and_false, Bool.false_and, Bool.or_true, Bool.true_or, Bool.or_false, Bool.false_or, Int.reduceToNat, UInt8.reduceOfNat]; done)))))
                trivial
              · skip
                (simp only [Int.reduceToNat, UInt8.reduceOfNat] at h12)
                have c12 := h12
                refine ⟨_, _, _, _, (@cf_bytesClone ?_ ?_), ?_⟩
                rotate_left 2
                repeat (refine Ob.mk ?_ ?_; focus ((exact Eq.refl _)))
                refine ⟨_, _, _, _, (@cf_wCheck ?_ ?_ ?_ ?_ ?_), ?_⟩
                rotate_left 5
                repeat (refine Ob.mk ?_ ?_; focus ((exact Eq.refl _)))
                refine ⟨fun h13 => ?_, fun h13 => ?_⟩
                · skip
                  (simp only [Int.reduceToNat, UInt8.reduceOfNat] at h13)
                  have c13 := h13
                  (simp only [Bool.not_eq_true', Bool.not_eq_false', Bool.not_true, Bool.not_false, Bool.and_eq_true, Bool.or_eq_true, Bool.and_eq_false_iff, Bool.or_eq_false_iff, Bool.not_not, beq_true, beq_false, decide_eq_true_eq, decide_eq_false_iff_not] at c13)
                  repeat (refine Ob.mk ?_ ?_; (focus (((simp only [wDec, wTake, pair_eta, h1, h2, h3, h4, h5, h11, h12, h13, cond_true, cond_false, Bool.not_true, Bool.not_false, Bool.and_true, Bool.true_and, Bool.and_false, Bool.false_and, Bool.or_true, Bool.true_or, Bool.or_false, Bool.false_or, Int.reduceToNat, UInt8.reduceOfNat]; done)))))
                  trivial
                · skip
                  (simp only [Int.reduceToNat, UInt8.reduceOfNat] at h13)
                  have c13 := h13
                  (simp only [Bool.not_eq_true', Bool.not_eq_false', Bool.not_true, Bool.not_false, Bool.and_eq_true, Bool.or_eq_true, Bool.and_eq_false_iff, Bool.or_eq_false_iff, Bool.not_not, beq_true, beq_false, decide_eq_true_eq, decide_eq_false_iff_not] at c13)
                  repeat (refine Ob.mk ?_ ?_; (focus (first | (exact Eq.refl _) | (simp only [wDec, wTake, pair_eta, h1, h2, h3, h4, h5, h11, h12, h13, cond_true, cond_false, Bool.not_true, Bool.not_false, Bool.and_true, Bool.true_and, Bool.and_false, Bool.false_and, Bool.or_true, Bool.true_or, Bool.or_false, Bool.false_or, Int.reduceToNat, UInt8.reduceOfNat]; done))))
                  trivial
                all_goals (((repeat (refine Nat.le_trans (wNum_len _ _) ?_)); (simp; omega)))
              all_goals (first | (repeat (refine Nat.le_trans (wNum_len _ _) ?_)); (simp; omega) | (exact Nat.le_of_ble_eq_true rfl))
            · skip
              (simp only [Int.reduceToNat, UInt8.reduceOfNat] at h11)
              have c11 := h11
              refine ⟨fun h14 => ?_, fun h14 => ?_⟩
              · skip
                (simp only [Int.reduceToNat, UInt8.reduceOfNat] at h14)
                have c14 := h14
                repeat (refine Ob.mk ?_ ?_; (focus (((simp only [wDec, wTake, pair_eta, h1, h2, h3, h4, h5, h11, h14, cond_true, cond_false, Bool.not_true, Bool.not_false, Bool.and_true, Bool.true_and, Bool.and_false, Bool.false_and, Bool.or_true, Bool.true_or, Bool.or_false, Bool.false_or, Int.reduceToNat, UInt8.reduceOfNat]; done)))))
                trivial
              · skip
                (simp only [Int.reduceToNat, UInt8.reduceOfNat] at h14)
                have c14 := h14
                refine ⟨_, _, _, _, (@cf_bytesClone ?_ ?_), ?_⟩
                rotate_left 2
                repeat (refine Ob.mk ?_ ?_; focus ((exact Eq.refl _)))
                refine ⟨_, _, _, _, (@cf_wCheck ?_ ?_ ?_ ?_ ?_), ?_⟩
                rotate_left 5
                repeat (refine Ob.mk ?_ ?_; focus ((exact Eq.refl _)))
                refine ⟨fun h15 => ?_, fun h15 => ?_⟩
                · skip
                  (simp only [Int.reduceToNat, UInt8.reduceOfNat] at h15)
                  have c15 := h15
                  (simp only [Bool.not_eq_true', Bool.not_eq_false', Bool.not_true, Bool.not_false, Bool.and_eq_true, Bool.or_eq_true, Bool.and_eq_false_iff, Bool.or_eq_false_iff, Bool.not_not, beq_true, beq_false, decide_eq_true_eq, decide_eq_false_iff_not] at c15)
                  repeat (refine Ob.mk ?_ ?_; (focus (((simp only [wDec, wTake, pair_eta, h1, h2, h3, h4, h5, h11, h14, h15, cond_true, cond_false, Bool.not_true, Bool.not_false, Bool.and_true, Bool.true_and, Bool.and_false, Bool.false_and, Bool.or_true, Bool.true_or, Bool.or_false, Bool.false_or, Int.reduceToNat, UInt8.reduceOfNat]; done)))))
                  trivial
                · skip
                  (simp only [Int.reduceToNat, UInt8.reduceOfNat] at h15)
                  have c15 := h15
                  (simp only [Bool.not_eq_true', Bool.not_eq_false', Bool.not_true, Bool.not_false, Bool.and_eq_true, Bool.or_eq_true, Bool.and_eq_false_iff, Bool.or_eq_false_iff, Bool.not_not, beq_true, beq_false, decide_eq_true_eq, decide_eq_false_iff_not] at c15)
                  repeat (refine Ob.mk ?_ ?_; (focus (first | (exact Eq.refl _) | (simp only [wDec, wTake, pair_eta, h1, h2, h3, h4, h5, h11, h14, h15, cond_true, cond_false, Bool.not_true, Bool.not_false, Bool.and_true, Bool.true_and, Bool.and_false, Bool.false_and, Bool.or_true, Bool.true_or, Bool.or_false, Bool.false_or, Int.reduceToNat, UInt8.reduceOfNat]; done))))
                  trivial
                all_goals (((repeat (refine Nat.le_trans (wNum_len _ _) ?_)); (simp; omega)))
          all_goals (first | (repeat (refine Nat.le_trans (wNum_len _ _) ?_)); (simp; omega) | (exact Nat.le_of_ble_eq_true rfl))
        · skip
          (simp only [Int.reduceToNat, UInt8.reduceOfNat] at h4)
          have c4 := h4
          refine ⟨fun h16 => ?_, fun h16 => ?_⟩
          · skip
            (simp only [Int.reduceToNat, UInt8.reduceOfNat] at h16)
            have c16 := h16
            refine ⟨_, _, _, _, (@cf_number ?_ ?_ ?_ ?_ ?_), ?_⟩
            rotate_left 5
            repeat (refine Ob.mk ?_ ?_; focus ((exact Eq.refl _)))
            refine ⟨fun h17 => ?_, fun h17 => ?_⟩
            · skip
              (simp only [Int.reduceToNat, UInt8.reduceOfNat] at h17)
              have c17 := h17
              refine ⟨_, _, _, _, (@cf_number ?_ ?_ ?_ ?_ ?_), ?_⟩
              rotate_left 5
              repeat (refine Ob.mk ?_ ?_; focus ((exact Eq.refl _)))
              refine ⟨fun h18 => ?_, fun h18 => ?_⟩
              · skip
                (simp only [Int.reduceToNat, UInt8.reduceOfNat] at h18)
                have c18 := h18
                repeat (refine Ob.mk ?_ ?_; (focus (((simp only [wDec, wTake, pair_eta, h1, h2, h3, h4, h16, h17, h18, cond_true, cond_false, Bool.not_true, Bool.not_false, Bool.and_true, Bool.true_and, Bool.and_false, Bool.false_and, Bool.or_true, Bool.true_or, Bool.or_false, Bool.false_or, Int.reduceToNat, UInt8.reduceOfNat]; done)))))
                trivial
              · skip
                (simp only [Int.reduceToNat, UInt8.reduceOfNat] at h18)
                have c18 := h18
                refine ⟨_, _, _, _, (@cf_bytesClone ?_ ?_), ?_⟩
                rotate_left 2
                repeat (refine Ob.mk ?_ ?_; focus ((exact Eq.refl _)))
                refine ⟨_, _, _, _, (@cf_wCheck ?_ ?_ ?_ ?_ ?_), ?_⟩
                rotate_left 5
                repeat (refine Ob.mk ?_ ?_; focus ((exact Eq.refl _)))
                refine ⟨fun h19 => ?_, fun h19 => ?_⟩
                · skip
                  (simp only [Int.reduceToNat, UInt8.reduceOfNat] at h19)
                  have c19 := h19
                  (simp only [Bool.not_eq_true', Bool.not_eq_false', Bool.not_true, Bool.not_false, Bool.and_eq_true, Bool.or_eq_true, Bool.and_eq_false_iff, Bool.or_eq_false_iff, Bool.not_not, beq_true, beq_false, decide_eq_true_eq, decide_eq_false_iff_not] at c19)
                  repeat (refine Ob.mk ?_ ?_; (focus (((simp only [wDec, wTake, pair_eta, h1, h2, h3, h4, h16, h17, h18, h19, cond_true, cond_false, Bool.not_true, Bool.not_false, Bool.and_true, Bool.true_and, Bool.and_false, Bool.false_and, Bool.or_true, Bool.true_or, Bool.or_false, Bool.false_or, Int.reduceToNat, UInt8.reduceOfNat]; done)))))
                  trivial
                · skip
                  (simp only [Int.reduceToNat, UInt8.reduceOfNat] at h19)
                  have c19 := h19
                  (simp only [Bool.not_eq_true', Bool.not_eq_false', Bool.not_true, Bool.not_false, Bool.and_eq_true, Bool.or_eq_true, Bool.and_eq_false_iff, Bool.or_eq_false_iff, Bool.not_not, beq_true, beq_false, decide_eq_true_eq, decide_eq_false_iff_not] at c19)
                  repeat (refine Ob.mk ?_ ?_; (focus (first | (exact Eq.refl _) | (simp only [wDec, wTake, pair_eta, h1, h2, h3, h4, h16, h17, h18, h19, cond_true, cond_false, Bool.not_true, Bool.not_false, Bool.and_true, Bool.true_and, Bool.and_false, Bool.false_and, Bool.or_true, Bool.true_or, Bool.or_false, Bool.false_or, Int.reduceToNat, UInt8.reduceOfNat]; done))))
                  trivial
                all_goals (((repeat (refine Nat.le_trans (wNum_len _ _) ?_)); (simp; omega)))
              all_goals (first | (repeat (refine Nat.le_trans (wNum_len _ _) ?_)); (simp; omega) | (exact Nat.le_of_ble_eq_true rfl))
            · skip
              (simp only [Int.reduceToNat, UInt8.reduceOfNat] at h17)
              have c17 := h17
              refine ⟨fun h20 => ?_, fun h20 => ?_⟩
              · skip
                (simp only [Int.reduceToNat, UInt8.reduceOfNat] at h20)
                have c20 := h20
                repeat (refine Ob.mk ?_ ?_; (focus (((simp only [wDec, wTake, pair_eta, h1, h2, h3, h4, h16, h17, h20, cond_true, cond_false, Bool.not_true, Bool.not_false, Bool.and_true, Bool.true_and, Bool.and_false, Bool.false_and, Bool.or_true, Bool.true_or, Bool.or_false, Bool.false_or, Int.reduceToNat, UInt8.reduceOfNat]; done)))))
                trivial
              · skip
                (simp only [Int.reduceToNat, UInt8.reduceOfNat] at h20)
                have c20 := h20
                refine ⟨_, _, _, _, (@cf_bytesClone ?_ ?_), ?_⟩
                rotate_left 2
                repeat (refine Ob.mk ?_ ?_; focus ((exact Eq.refl _)))
                refine ⟨_, _, _, _, (@cf_wCheck ?_ ?_ ?_ ?_ ?_), ?_⟩
                rotate_left 5
                repeat (refine Ob.mk ?_ ?_; focus ((exact Eq.refl _)))
                refine ⟨fun h21 => ?_, fun h21 => ?_⟩
                · skip
                  (simp only [Int.reduceToNat, UInt8.reduceOfNat] at h21)
                  have c21 := h21
                  (simp only [Bool.not_eq_true', Bool.not_eq_false', Bool.not_true, Bool.not_false, Bool.and_eq_true, Bool.or_eq_true, Bool.and_eq_false_iff, Bool.or_eq_false_iff, Bool.not_not, beq_true, beq_false, decide_eq_true_eq, decide_eq_false_iff_not] at c21)
                  repeat (refine Ob.mk ?_ ?_; (focus (((simp only [wDec, wTake, pair_eta, h1, h2, h3, h4, h16, h17, h20, h21, cond_true, cond_false, Bool.not_true, Bool.not_false, Bool.and_true, Bool.true_and, Bool.and_false, Bool.false_and, Bool.or_true, Bool.true_or, Bool.or_false, Bool.false_or, Int.reduceToNat, UInt8.reduceOfNat]; done)))))
                  trivial
                · skip
                  (simp only [Int.reduceToNat, UInt8.reduceOfNat] at h21)
                  have c21 := h21
                  (simp only [Bool.not_eq_true', Bool.not_eq_false', Bool.not_true, Bool.not_false, Bool.and_eq_true, Bool.or_eq_true, Bool.and_eq_false_iff, Bool.or_eq_false_iff, Bool.not_not, beq_true, beq_false, decide_eq_true_eq, decide_eq_false_iff_not] at c21)
                  repeat (refine Ob.mk ?_ ?_; (focus (first | (exact Eq.refl _) | (simp only [wDec, wTake, pair_eta, h1, h2, h3, h4, h16, h17, h20, h21, cond_true, cond_false, Bool.not_true, Bool.not_false, Bool.and_true, Bool.true_and, Bool.and_false, Bool.false_and, Bool.or_true, Bool.true_or, Bool.or_false, Bool.false_or, Int.reduceToNat, UInt8.reduceOfNat]; done))))
                  trivial
                all_goals (((repeat (refine Nat.le_trans (wNum_len _ _) ?_)); (simp; omega)))
            all_goals (first | (repeat (refine Nat.le_trans (wNum_len _ _) ?_)); (simp; omega) | (exact Nat.le_of_ble_eq_true rfl))
          · skip
            (simp only [Int.reduceToNat, UInt8.reduceOfNat] at h16)
            have c16 := h16
            refine ⟨fun h22 => ?_, fun h22 => ?_⟩
            · skip
              (simp only [Int.reduceToNat, UInt8.reduceOfNat] at h22)
              have c22 := h22
              refine ⟨_, _, _, _, (@cf_number ?_ ?_ ?_ ?_ ?_), ?_⟩
              rotate_left 5
              repeat (refine Ob.mk ?_ ?_; focus ((exact Eq.refl _)))
              refine ⟨fun h23 => ?_, fun h23 => ?_⟩
              · skip
                (simp only [Int.reduceToNat, UInt8.reduceOfNat] at h23)
                have c23 := h23
                repeat (refine Ob.mk ?_ ?_; (focus (((simp only [wDec, wTake, pair_eta, h1, h2, h3, h4, h16, h22, h23, cond_true, cond_false, Bool.not_true, Bool.not_false, Bool.and_true, Bool.true_and, Bool.and_false, Bool.false_and, Bool.or_true, Bool.true_or, Bool.or_false, Bool.false_or, Int.reduceToNat, UInt8.reduceOfNat]; done)))))
                trivial
              · skip
                (simp only [Int.reduceToNat, UInt8.reduceOfNat] at h23)
                have c23 := h23
                refine ⟨_, _, _, _, (@cf_bytesClone ?_ ?_), ?_⟩
                rotate_left 2
                repeat (refine Ob.mk ?_ ?_; focus ((exact Eq.refl _)))
                refine ⟨_, _, _, _, (@cf_wCheck ?_ ?_ ?_ ?_ ?_), ?_⟩
                rotate_left 5
                repeat (refine Ob.mk ?_ ?_; focus ((exact Eq.refl _)))
                refine ⟨fun h24 => ?_, fun h24 => ?_⟩
                · skip
                  (simp only [Int.reduceToNat, UInt8.reduceOfNat] at h24)
                  have c24 := h24
                  (simp only [Bool.not_eq_true', Bool.not_eq_false', Bool.not_true, Bool.not_false, Bool.and_eq_true, Bool.or_eq_true, Bool.and_eq_false_iff, Bool.or_eq_false_iff, Bool.not_not, beq_true, beq_false, decide_eq_true_eq, decide_eq_false_iff_not] at c24)
                  repeat (refine Ob.mk ?_ ?_; (focus (((simp only [wDec, wTake, pair_eta, h1, h2, h3, h4, h16, h22, h23, h24, cond_true, cond_false, Bool.not_true, Bool.not_false, Bool.and_true, Bool.true_and, Bool.and_false, Bool.false_and, Bool.or_true, Bool.true_or, Bool.or_false, Bool.false_or, Int.reduceToNat, UInt8.reduceOfNat]; done)))))
                  trivial
                · skip
                  (simp only [Int.reduceToNat, UInt8.reduceOfNat] at h24)
                  have c24 := h24
                  (simp only [Bool.not_eq_true', Bool.not_eq_false', Bool.not_true, Bool.not_false, Bool.and_eq_true, Bool.or_eq_true, Bool.and_eq_false_iff, Bool.or_eq_false_iff, Bool.not_not, beq_true, beq_false, decide_eq_true_eq, decide_eq_false_iff_not] at c24)
                  repeat (refine Ob.mk ?_ ?_; (focus (first | (exact Eq.refl _) | (simp only [wDec, wTake, pair_eta, h1, h2, h3, h4, h16, h22, h23, h24, cond_true, cond_false, Bool.not_true, Bool.not_false, Bool.and_true, Bool.true_and, Bool.and_false, Bool.false_and, Bool.or_true, Bool.true_or, Bool.or_false, Bool.false_or, Int.reduceToNat, UInt8.reduceOfNat]; done))))
                  trivial
                all_goals (((repeat (refine Nat.le_trans (wNum_len _ _) ?_)); (simp; omega)))
              all_goals (first | (repeat (refine Nat.le_trans (wNum_len _ _) ?_)); (simp; omega) | (exact Nat.le_of_ble_eq_true rfl))
            · skip
              (simp only [Int.reduceToNat, UInt8.reduceOfNat] at h22)
              have c22 := h22
              refine ⟨fun h25 => ?_, fun h25 => ?_⟩
              · skip
                have c25 := h25
                repeat (refine Ob.mk ?_ ?_; (focus (((simp only [wDec, wTake, pair_eta, h1, h2, h3, h4, h16, h22, h25, cond_true, cond_false, Bool.not_true, Bool.not_false, Bool.and_true, Bool.true_and, Bool.and_false, Bool.false_and, Bool.or_true, Bool.true_or, Bool.or_false, Bool.false_or, Int.reduceToNat, UInt8.reduceOfNat]; done)))))
                trivial
              · skip
                (simp only [Int.reduceToNat, UInt8.reduceOfNat] at h25)
                have c25 := h25
                refine ⟨_, _, _, _, (@cf_bytesClone ?_ ?_), ?_⟩
                rotate_left 2
                repeat (refine Ob.mk ?_ ?_; focus ((exact Eq.refl _)))
                refine ⟨_, _, _, _, (@cf_wCheck ?_ ?_ ?_ ?_ ?_), ?_⟩
                rotate_left 5
                repeat (refine Ob.mk ?_ ?_; focus ((exact Eq.refl _)))
                refine ⟨fun h26 => ?_, fun h26 => ?_⟩
                · skip
                  (simp only [Int.reduceToNat, UInt8.reduceOfNat] at h26)
                  have c26 := h26
                  (simp only [Bool.not_eq_true', Bool.not_eq_false', Bool.not_true, Bool.not_false, Bool.and_eq_true, Bool.or_eq_true, Bool.and_eq_false_iff, Bool.or_eq_false_iff, Bool.not_not, beq_true, beq_false, decide_eq_true_eq, decide_eq_false_iff_not] at c26)
                  repeat (refine Ob.mk ?_ ?_; (focus (((simp only [wDec, wTake, pair_eta, h1, h2, h3, h4, h16, h22, h25, h26, cond_true, cond_false, Bool.not_true, Bool.not_false, Bool.and_true, Bool.true_and, Bool.and_false, Bool.false_and, Bool.or_true, Bool.true_or, Bool.or_false, Bool.false_or, Int.reduceToNat, UInt8.reduceOfNat]; done)))))
                  trivial
                · skip
                  (simp only [Int.reduceToNat, UInt8.reduceOfNat] at h26)
                  have c26 := h26
                  (simp only [Bool.not_eq_true', Bool.not_eq_false', Bool.not_true, Bool.not_false, Bool.and_eq_true, Bool.or_eq_true, Bool.and_eq_false_iff, Bool.or_eq_false_iff, Bool.not_not, beq_true, beq_false, decide_eq_true_eq, decide_eq_false_iff_not] at c26)
                  repeat (refine Ob.mk ?_ ?_; (focus (first | (exact Eq.refl _) | (simp only [wDec, wTake, pair_eta, h1, h2, h3, h4, h16, h22, h25, h26, cond_true, cond_false, Bool.not_true, Bool.not_false, Bool.and_true, Bool.true_and, Bool.and_false, Bool.false_and, Bool.or_true, Bool.true_or, Bool.or_false, Bool.false_or, Int.reduceToNat, UInt8.reduceOfNat]; done))))
                  trivial
                all_goals (((repeat (refine Nat.le_trans (wNum_len _ _) ?_)); (simp; omega)))
end Go.Proofs.Ytnopdnclefopbaa
