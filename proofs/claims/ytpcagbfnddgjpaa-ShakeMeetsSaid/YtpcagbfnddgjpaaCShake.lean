/- package shake: contracts. -/
import Derived.Test.YtpcagbfnddgjpaaCPairS
import Derived.Test.YtpcagbfnddgjpaaCJoin
import Derived.Test.YtpcagbfnddgjpaaShakeF
import Derived.Test.YtpcagbfnddgjpaaCWireC
namespace Go.Proofs.Ytpcagbfnddgjpaa
open Go.RowKit
set_option linter.unusedVariables false
set_option linter.unusedSimpArgs false

theorem wHlo {m : Int} (h1 : 0 ≤ m) (h2 : m ≤ 4294967295) : wChk 1 m 0 0 32 = 0 := by
  have a : decide (m < 0) = false := decide_eq_false (by omega)
  have b : decide (4294967295 < m) = false := decide_eq_false (by omega)
  simp [wChk, wIs, wSnd, wRcv, wCnt, wLeast, wMost, a, b]
theorem wAns {m n : Int} (h1 : 0 ≤ m) (h2 : m ≤ 4294967295) (h3 : 0 ≤ n) (h4 : n ≤ 4294967295) : wChk 2 m n 0 24 = 0 := by
  have a : decide (m < 0) = false := decide_eq_false (by omega)
  have b : decide (4294967295 < m) = false := decide_eq_false (by omega)
  have c : decide (n < 0) = false := decide_eq_false (by omega)
  have d : decide (4294967295 < n) = false := decide_eq_false (by omega)
  simp [wChk, wIs, wSnd, wRcv, wCnt, wLeast, wMost, a, b, c, d]
set_option maxRecDepth 100000 in
set_option maxHeartbeats 4000000 in
theorem cf_shNumber {n : Int} : Cf Try.prog 80 [] [.i n] [] (.bs (num4 n)) := by
  refine Cf.introR tabT {} D0 (by kernel_rfl) tab_ok Try.func80 Try.ntmps80 rfl rfl (D0_ok) (by kernel_rfl) ?_
  repeat (refine Ob.mk ?_ ?_; focus (first | (exact num4_ n) | (exact Eq.refl _) | omega))
  trivial
set_option maxRecDepth 100000 in
set_option maxHeartbeats 4000000 in
theorem cf_shTag {s w a b c : List UInt8} (hs : hexC s = 0) (hl : w.length + (a.length + b.length + c.length) ≤ 936) : Cf Try.prog 79 [] [.s s, .s w, .sl [.bs a, .bs b, .bs c] 3] [] (.tup [.bs (shT s w a b c), .i 0]) := by
  have hJ := cf_Join3 (a := a) (b := b) (c := c) (by omega) (by omega) (by omega)
  have hT := tag_cf (k := s) (b := w ++ (a ++ b ++ c)) hs (by simp only [List.length_append]; omega)
  have tl := tagS_length s (w ++ (a ++ b ++ c))
  refine Cf.introR tabT {} D0 (by kernel_rfl) tab_ok Try.func79 Try.ntmps79 rfl rfl (D0_ok) (by kernel_rfl) ?_
  repeat (refine Ob.mk ?_ ?_; focus (omega))
  refine ⟨_, _, _, _, hJ, ?_⟩
  repeat (refine Ob.mk ?_ ?_; (focus (first | (exact Eq.refl _) | (simp only [SrcE.len, Nat.zero_add, List.length_append, List.length_cons, List.length_nil]; omega))))
  refine ⟨_, _, _, _, hT, ?_⟩
  repeat (refine Ob.mk ?_ ?_; (focus (first | (exact Eq.refl _) | (simp only [SrcE.len, Nat.zero_add, List.length_append, List.length_cons, List.length_nil]; done))))
  refine ⟨fun h1 => ?_, fun h1 => ?_⟩
  · skip
    (simp only [Int.reduceToNat, UInt8.reduceOfNat] at h1)
    have c1 := h1
    (simp only [Bool.not_eq_true', Bool.not_eq_false', Bool.not_true, Bool.not_false, Bool.and_eq_true, Bool.or_eq_true, Bool.and_eq_false_iff, Bool.or_eq_false_iff, Bool.not_not, beq_true, beq_false, decide_eq_true_eq, decide_eq_false_iff_not] at c1)
    repeat (refine Ob.mk ?_ ?_; (focus (first | (exact Eq.refl _) | (simp_all; done))))
    trivial
  · skip
    (simp only [Int.reduceToNat, UInt8.reduceOfNat] at h1)
    have c1 := h1
    (simp only [Bool.not_eq_true', Bool.not_eq_false', Bool.not_true, Bool.not_false, Bool.and_eq_true, Bool.or_eq_true, Bool.and_eq_false_iff, Bool.or_eq_false_iff, Bool.not_not, beq_true, beq_false, decide_eq_true_eq, decide_eq_false_iff_not] at c1)
    repeat (refine Ob.mk ?_ ?_; (focus (first | (exact shT_ s w a b c) | (rw [tl]; decide) | (exact Eq.refl _))))
    trivial
set_option maxRecDepth 100000 in
set_option maxHeartbeats 4000000 in
theorem cf_shNonce {s v : List UInt8} (hs : s.length = 16) (hv : unhex s = some v) : Cf Try.prog 78 [] [.s s] [] (.tup [.bs v, .i 0]) := by
  obtain ⟨e1, e2⟩ := hex_done (by omega) (by omega) hv
  have hB := cf_hexBytes (l := s)
  rw [e1, e2] at hB
  refine Cf.introR tabT {} D0 (by kernel_rfl) tab_ok Try.func78 Try.ntmps78 rfl rfl (D0_ok) (by kernel_rfl) ?_
  refine ⟨fun h1 => ?_, fun h1 => ?_⟩
  · skip
    have c1 := h1
    (simp only [Bool.not_eq_true', Bool.not_eq_false', Bool.not_true, Bool.not_false, Bool.and_eq_true, Bool.or_eq_true, Bool.and_eq_false_iff, Bool.or_eq_false_iff, Bool.not_not, beq_true, beq_false, decide_eq_true_eq, decide_eq_false_iff_not] at c1)
    repeat (refine Ob.mk ?_ ?_; focus (omega))
    trivial
  · skip
    have c1 := h1
    (simp only [Bool.not_eq_true', Bool.not_eq_false', Bool.not_true, Bool.not_false, Bool.and_eq_true, Bool.or_eq_true, Bool.and_eq_false_iff, Bool.or_eq_false_iff, Bool.not_not, beq_true, beq_false, decide_eq_true_eq, decide_eq_false_iff_not] at c1)
    refine ⟨_, _, _, _, hB, ?_⟩
    repeat (refine Ob.mk ?_ ?_; focus ((exact Eq.refl _)))
    trivial
set_option maxRecDepth 100000 in
set_option maxHeartbeats 4000000 in
theorem cf_shNonceO {s v : List UInt8} (hs : s.length = 16) (hv : unhex s = some v) : Cf Try.prog 78 [] [.s s] [(60, .rb v 5 0)] (.tup [.osl 60 v.length, .i 0]) := by
  have hB := cf_hexBytesO hv (by omega)
  refine Cf.introR tabT {} D0 (by kernel_rfl) tab_ok Try.func78 Try.ntmps78 rfl rfl (D0_ok) (by kernel_rfl) ?_
  refine ⟨fun h1 => ?_, fun h1 => ?_⟩
  · skip
    have c1 := h1
    (simp only [Bool.not_eq_true', Bool.not_eq_false', Bool.not_true, Bool.not_false, Bool.and_eq_true, Bool.or_eq_true, Bool.and_eq_false_iff, Bool.or_eq_false_iff, Bool.not_not, beq_true, beq_false, decide_eq_true_eq, decide_eq_false_iff_not] at c1)
    exact absurd hs (by omega)
  · skip
    have c1 := h1
    (simp only [Bool.not_eq_true', Bool.not_eq_false', Bool.not_true, Bool.not_false, Bool.and_eq_true, Bool.or_eq_true, Bool.and_eq_false_iff, Bool.or_eq_false_iff, Bool.not_not, beq_true, beq_false, decide_eq_true_eq, decide_eq_false_iff_not] at c1)
    refine ⟨_, _, _, _, hB, ?_⟩
    repeat (refine Ob.mk ?_ ?_; focus (first | (exact Eq.refl _) | omega))
    trivial
set_option maxRecDepth 100000 in
set_option maxHeartbeats 4000000 in
theorem cf_Hello {o p s n v : List UInt8} {mine : Int} (ho : hexC o = 0) (hp : hexC p = 0) (hne : ¬ o = p) (hc : s = [] ∨ hexC s = 0) (h1 : 0 ≤ mine) (h2 : mine ≤ 4294967295) (hn : n.length = 16) (hv : unhex n = some v) : Cf Try.prog 47 [] [.s o, .s p, .s s, .i mine, .s n] [] (.tup [.agg [.i 1, .i mine, .i 0, .i 0, .bs (hloB o p s mine v)], .i 0]) := by
  have hS := cf_Secret ho hp hc
  rw [if_neg hne, if_neg hne] at hS
  have lv : v.length = 8 := by have := unhex_len _ _ hv; omega
  have hM := mark_cf ho
  have lm := markS_length o
  have hN := cf_shNonce hn hv
  have hT := cf_shTag (s := secS o p s) (w := helloW) (a := num4 mine) (b := v) (c := markS o) (secS_key _ _ _) (by rw [num4_length, lv, lm]; decide)
  have lt := shT_length (secS o p s) helloW (num4 mine) v (markS o)
  have hJ := cf_Join3 (a := v) (b := markS o) (c := shT (secS o p s) helloW (num4 mine) v (markS o)) (by omega) (by omega) (by omega)
  have lb := hloB_length o p s mine lv
  have hW := cf_wCheck (t := 1) (s := mine) (r := 0) (c := 0) (l := hloB o p s mine v)
  have hw : wChk 1 mine 0 0 (hloB o p s mine v).length = 0 := by rw [lb]; exact wHlo h1 h2
  rw [hw] at hW
  refine Cf.introR tabT {} D0 (by kernel_rfl) tab_ok Try.func47 Try.ntmps47 rfl rfl (D0_ok) (by kernel_rfl) ?_
  refine ⟨_, _, _, _, hS, ?_⟩
  repeat (refine Ob.mk ?_ ?_; focus ((exact Eq.refl _)))
  refine ⟨fun h1 => ?_, fun h1 => ?_⟩
  · skip
    (simp only [Int.reduceToNat, UInt8.reduceOfNat] at h1)
    have c1 := h1
    (simp only [Bool.not_eq_true', Bool.not_eq_false', Bool.not_true, Bool.not_false, Bool.and_eq_true, Bool.or_eq_true, Bool.and_eq_false_iff, Bool.or_eq_false_iff, Bool.not_not, beq_true, beq_false, decide_eq_true_eq, decide_eq_false_iff_not] at c1)
    repeat (refine Ob.mk ?_ ?_; (focus (first | (exact Eq.refl _) | (simp_all; done))))
    trivial
  · skip
    (simp only [Int.reduceToNat, UInt8.reduceOfNat] at h1)
    have c1 := h1
    (simp only [Bool.not_eq_true', Bool.not_eq_false', Bool.not_true, Bool.not_false, Bool.and_eq_true, Bool.or_eq_true, Bool.and_eq_false_iff, Bool.or_eq_false_iff, Bool.not_not, beq_true, beq_false, decide_eq_true_eq, decide_eq_false_iff_not] at c1)
    refine ⟨_, _, _, _, hN, ?_⟩
    repeat (refine Ob.mk ?_ ?_; focus ((exact Eq.refl _)))
    refine ⟨fun h2 => ?_, fun h2 => ?_⟩
    · skip
      (simp only [Int.reduceToNat, UInt8.reduceOfNat] at h2)
      have c2 := h2
      (simp only [Bool.not_eq_true', Bool.not_eq_false', Bool.not_true, Bool.not_false, Bool.and_eq_true, Bool.or_eq_true, Bool.and_eq_false_iff, Bool.or_eq_false_iff, Bool.not_not, beq_true, beq_false, decide_eq_true_eq, decide_eq_false_iff_not] at c2)
      repeat (refine Ob.mk ?_ ?_; (focus (first | (exact Eq.refl _) | (simp_all; done))))
      trivial
    · skip
      (simp only [Int.reduceToNat, UInt8.reduceOfNat] at h2)
      have c2 := h2
      (simp only [Bool.not_eq_true', Bool.not_eq_false', Bool.not_true, Bool.not_false, Bool.and_eq_true, Bool.or_eq_true, Bool.and_eq_false_iff, Bool.or_eq_false_iff, Bool.not_not, beq_true, beq_false, decide_eq_true_eq, decide_eq_false_iff_not] at c2)
      refine ⟨_, _, _, _, hM, ?_⟩
      repeat (refine Ob.mk ?_ ?_; focus ((exact Eq.refl _)))
      refine ⟨_, _, _, _, (@cf_shNumber ?_), ?_⟩
      rotate_left 1
      repeat (refine Ob.mk ?_ ?_; focus ((exact Eq.refl _)))
      refine ⟨_, _, _, _, hT, ?_⟩
      repeat (refine Ob.mk ?_ ?_; focus ((exact Eq.refl _)))
      refine ⟨_, _, _, _, hJ, ?_⟩
      repeat (refine Ob.mk ?_ ?_; focus ((exact Eq.refl _)))
      refine ⟨_, _, _, _, hW, ?_⟩
      repeat (refine Ob.mk ?_ ?_; focus ((exact Eq.refl _)))
      refine ⟨fun h3 => ?_, fun h3 => ?_⟩
      · skip
        (simp only [Int.reduceToNat, UInt8.reduceOfNat] at h3)
        have c3 := h3
        (simp only [Bool.not_eq_true', Bool.not_eq_false', Bool.not_true, Bool.not_false, Bool.and_eq_true, Bool.or_eq_true, Bool.and_eq_false_iff, Bool.or_eq_false_iff, Bool.not_not, beq_true, beq_false, decide_eq_true_eq, decide_eq_false_iff_not] at c3)
        repeat (refine Ob.mk ?_ ?_; (focus (first | (exact Eq.refl _) | (simp_all; done))))
        trivial
      · skip
        (simp only [Int.reduceToNat, UInt8.reduceOfNat] at h3)
        have c3 := h3
        (simp only [Bool.not_eq_true', Bool.not_eq_false', Bool.not_true, Bool.not_false, Bool.and_eq_true, Bool.or_eq_true, Bool.and_eq_false_iff, Bool.or_eq_false_iff, Bool.not_not, beq_true, beq_false, decide_eq_true_eq, decide_eq_false_iff_not] at c3)
        repeat (refine Ob.mk ?_ ?_; focus ((exact Eq.refl _)))
        trivial
set_option maxRecDepth 100000 in
set_option maxHeartbeats 4000000 in
theorem cf_Greets {o p s b : List UInt8} {mine : Int} (ho : hexC o = 0) (hp : hexC p = 0) (hne : ¬ p = o) (hc : s = [] ∨ hexC s = 0) (h1 : 0 ≤ mine) (h2 : mine ≤ 4294967295) (hb : b.length = 32) : Cf Try.prog 50 [] [.s o, .s p, .s s, .agg [.i 1, .i mine, .i 0, .i 0, .bs b]] [] (.tup [.s (grR o p s mine b), .i (grE o p s mine b)]) := by
  have hW := cf_wCheck (t := 1) (s := mine) (r := 0) (c := 0) (l := b)
  have hw : wChk 1 mine 0 0 b.length = 0 := by rw [hb]; exact wHlo h1 h2
  rw [hw] at hW
  have l8 : (b.take 8).length = 8 := by rw [List.length_take]; omega
  have hT := cf_hexText (l := b.take 8) (by omega)
  have hH := cf_Hello (s := s) (n := hexText (b.take 8)) (v := b.take 8) (mine := mine) hp ho hne hc h1 h2 (by rw [hexText_length]; omega) (unhex_hexText _)
  have lb := hloB_length p o s mine l8
  refine Cf.introR tabT {} (DR _ _ _ tabT {}) (by kernel_rfl) tab_ok Try.func50 Try.ntmps50 rfl rfl (DR_ok tab_ok (by kernel_rfl)) (by kernel_rfl) ?_
  refine ⟨_, _, _, _, hW, ?_⟩
  repeat (refine Ob.mk ?_ ?_; focus ((exact Eq.refl _)))
  refine ⟨fun h1 => ?_, fun h1 => ?_⟩
  · skip
    (simp only [Int.reduceToNat, UInt8.reduceOfNat] at h1)
    have c1 := h1
    (simp only [Bool.not_eq_true', Bool.not_eq_false', Bool.not_true, Bool.not_false, Bool.and_eq_true, Bool.or_eq_true, Bool.and_eq_false_iff, Bool.or_eq_false_iff, Bool.not_not, beq_true, beq_false, decide_eq_true_eq, decide_eq_false_iff_not] at c1)
    repeat (refine Ob.mk ?_ ?_; (focus (((simp_all [grR, grE]; done)))))
    trivial
  · skip
    (simp only [Int.reduceToNat, UInt8.reduceOfNat] at h1)
    have c1 := h1
    (simp only [Bool.not_eq_true', Bool.not_eq_false', Bool.not_true, Bool.not_false, Bool.and_eq_true, Bool.or_eq_true, Bool.and_eq_false_iff, Bool.or_eq_false_iff, Bool.not_not, beq_true, beq_false, decide_eq_true_eq, decide_eq_false_iff_not] at c1)
    refine ⟨fun h2 => ?_, fun h2 => ?_⟩
    · skip
      (simp only [Int.reduceToNat, UInt8.reduceOfNat] at h2)
      have c2 := h2
      (simp only [Bool.not_eq_true', Bool.not_eq_false', Bool.not_true, Bool.not_false, Bool.and_eq_true, Bool.or_eq_true, Bool.and_eq_false_iff, Bool.or_eq_false_iff, Bool.not_not, beq_true, beq_false, decide_eq_true_eq, decide_eq_false_iff_not] at c2)
      repeat (refine Ob.mk ?_ ?_; (focus (((simp_all [grR, grE]; done)))))
      trivial
    · skip
      (simp only [Int.reduceToNat, UInt8.reduceOfNat] at h2)
      have c2 := h2
      (simp only [Bool.not_eq_true', Bool.not_eq_false', Bool.not_true, Bool.not_false, Bool.and_eq_true, Bool.or_eq_true, Bool.and_eq_false_iff, Bool.or_eq_false_iff, Bool.not_not, beq_true, beq_false, decide_eq_true_eq, decide_eq_false_iff_not] at c2)
      refine ⟨[0, 0, 0, 0, 8, 0, 32, 96, 224, 511, 1023, 2047, 2047, 0, 12287, 32767], by kernel_rfl, ?_⟩
      repeat (refine Ob.mk ?_ ?_; focus (omega))
      refine ⟨_, _, _, _, hT, ?_⟩
      repeat (refine Ob.mk ?_ ?_; focus ((exact Eq.refl _)))
      refine ⟨_, _, _, _, hH, ?_⟩
      repeat (refine Ob.mk ?_ ?_; focus ((exact Eq.refl _)))
      refine ⟨fun h3 => ?_, fun h3 => ?_⟩
      · skip
        (simp only [Int.reduceToNat, UInt8.reduceOfNat] at h3)
        have c3 := h3
        (simp only [Bool.not_eq_true', Bool.not_eq_false', Bool.not_true, Bool.not_false, Bool.and_eq_true, Bool.or_eq_true, Bool.and_eq_false_iff, Bool.or_eq_false_iff, Bool.not_not, beq_true, beq_false, decide_eq_true_eq, decide_eq_false_iff_not] at c3)
        repeat (refine Ob.mk ?_ ?_; (focus (((simp_all [grR, grE]; done)))))
        trivial
      · skip
        (simp only [Int.reduceToNat, UInt8.reduceOfNat] at h3)
        have c3 := h3
        (simp only [Bool.not_eq_true', Bool.not_eq_false', Bool.not_true, Bool.not_false, Bool.and_eq_true, Bool.or_eq_true, Bool.and_eq_false_iff, Bool.or_eq_false_iff, Bool.not_not, beq_true, beq_false, decide_eq_true_eq, decide_eq_false_iff_not] at c3)
        refine ⟨_, _, _, _, (@cf_bytesEqual ?_ ?_), ?_⟩
        rotate_left 2
        repeat (refine Ob.mk ?_ ?_; focus ((exact Eq.refl _)))
        refine ⟨fun h4 => ?_, fun h4 => ?_⟩
        · skip
          have c4 := h4
          (simp only [Bool.not_eq_true', Bool.not_eq_false', Bool.not_true, Bool.not_false, Bool.and_eq_true, Bool.or_eq_true, Bool.and_eq_false_iff, Bool.or_eq_false_iff, Bool.not_not, beq_true, beq_false, decide_eq_true_eq, decide_eq_false_iff_not] at c4)
          repeat (refine Ob.mk ?_ ?_; (focus (((simp only [grR, grE, h1, h2, h3, h4, Bool.cond_decide, Bool.cond_not, cond_true, cond_false, Bool.not_true, Bool.not_false, Bool.and_true, Bool.true_and, Bool.and_false, Bool.false_and, Bool.or_true, Bool.true_or, Bool.or_false, Bool.false_or]; simp (disch := omega) only [if_pos, if_neg]; done)))))
          trivial
        · skip
          have c4 := h4
          (simp only [Bool.not_eq_true', Bool.not_eq_false', Bool.not_true, Bool.not_false, Bool.and_eq_true, Bool.or_eq_true, Bool.and_eq_false_iff, Bool.or_eq_false_iff, Bool.not_not, beq_true, beq_false, decide_eq_true_eq, decide_eq_false_iff_not] at c4)
          repeat (refine Ob.mk ?_ ?_; focus (omega))
          refine ⟨_, _, _, _, hT, ?_⟩
          repeat (refine Ob.mk ?_ ?_; (focus (first | (exact Eq.refl _) | (simp only [grR, grE, h1, h2, h3, h4, Bool.cond_decide, Bool.cond_not, cond_true, cond_false, Bool.not_true, Bool.not_false, Bool.and_true, Bool.true_and, Bool.and_false, Bool.false_and, Bool.or_true, Bool.true_or, Bool.or_false, Bool.false_or]; simp (disch := omega) only [if_pos, if_neg]; done))))
          trivial
end Go.Proofs.Ytpcagbfnddgjpaa
