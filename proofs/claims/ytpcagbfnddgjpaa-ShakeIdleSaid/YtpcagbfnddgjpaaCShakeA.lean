/- package shake: answers; contracts. -/
import Derived.Test.YtpcagbfnddgjpaaCShake
import Derived.Test.YtpcagbfnddgjpaaCKeysG
namespace Go.Proofs.Ytpcagbfnddgjpaa
open Go.RowKit
set_option linter.unusedVariables false
set_option linter.unusedSimpArgs false

set_option maxRecDepth 100000 in
set_option maxHeartbeats 4000000 in
theorem cf_Answer {o p s b n v : List UInt8} {fr mine now : Int} (ho : hexC o = 0) (hp : hexC p = 0) (hne : ¬ o = p) (hc : s = [] ∨ hexC s = 0) (h1 : 1 ≤ mine ∧ mine ≤ 4294967295) (h2 : 1 ≤ fr ∧ fr ≤ 4294967295) (h3 : 0 ≤ now ∧ now ≤ 1099511627776) (hb : b.length = 32) (hg : grE o p s fr b = 0) (hn : n.length = 16) (hv : unhex n = some v) : Cf Try.prog 48 [] [.s o, .s p, .s s, .agg [.i 1, .i fr, .i 0, .i 0, .bs b], .i mine, .s n, .i now] [] (.tup [.agg [.i 2, .i mine, .i fr, .i 0, .bs (ansB o p s (hexText (b.take 8)) fr mine v)], (makeK (secS o p s) (hexText (b.take 8)) n false mine fr now).ev, .i 0]) := by
  have hG := cf_Greets (mine := fr) (b := b) ho hp (fun q => hne q.symm) hc (by omega) (by omega) hb
  have hgr : grR o p s fr b = hexText (b.take 8) := by (unfold grE at hg; unfold grR; by_cases q : hloB p o s fr (b.take 8) = b; (rw [if_pos q]); (rw [if_neg q] at hg; exact absurd hg (by decide)))
  rw [hg, hgr] at hG
  have hS := cf_Secret ho hp hc
  rw [if_neg hne, if_neg hne] at hS
  have lv : v.length = 8 := by have := unhex_len _ _ hv; omega
  have lh : (hexText (b.take 8)).length = 16 := by rw [hexText_length, List.length_take]; omega
  have hN := cf_shNonceO hn hv
  have hM := cf_kyMake (s := secS o p s) (h := hexText (b.take 8)) (a := n) (fs := false) (mine := mine) (theirs := fr) (now := now) (secS_key _ _ _) lh hn h1 h2 h3
  have hT := cf_shTag (s := secS o p s) (w := answerW ++ hexText (b.take 8)) (a := num4 fr) (b := num4 mine) (c := v) (secS_key _ _ _) (by rw [num4_length, num4_length, lv, List.length_append, lh]; decide)
  have lt := shT_length (secS o p s) (answerW ++ hexText (b.take 8)) (num4 fr) (num4 mine) v
  refine Cf.introR tabT {fk := [90]} (DR _ _ _ tabT {fk := [90]}) (by kernel_rfl) tab_ok Try.func48 Try.ntmps48 rfl rfl (DR_ok tab_ok (by kernel_rfl)) (by kernel_rfl) ?_
  refine ⟨_, _, _, _, hG, ?_⟩
  repeat (refine Ob.mk ?_ ?_; focus ((exact Eq.refl _)))
  refine ⟨fun h1 => ?_, fun h1 => ?_⟩
  · skip
    (simp only [Int.reduceToNat, UInt8.reduceOfNat] at h1)
    have c1 := h1
    (simp only [Bool.not_eq_true', Bool.not_eq_false', Bool.not_true, Bool.not_false, Bool.and_eq_true, Bool.or_eq_true, Bool.and_eq_false_iff, Bool.or_eq_false_iff, Bool.not_not, beq_true, beq_false, decide_eq_true_eq, decide_eq_false_iff_not] at c1)
    exact absurd c1 (by decide)
  · skip
    (simp only [Int.reduceToNat, UInt8.reduceOfNat] at h1)
    have c1 := h1
    (simp only [Bool.not_eq_true', Bool.not_eq_false', Bool.not_true, Bool.not_false, Bool.and_eq_true, Bool.or_eq_true, Bool.and_eq_false_iff, Bool.or_eq_false_iff, Bool.not_not, beq_true, beq_false, decide_eq_true_eq, decide_eq_false_iff_not] at c1)
    refine ⟨_, _, _, _, hN, ?_⟩
    repeat (refine Ob.mk ?_ ?_; focus ((exact Eq.refl _)))
    refine ⟨fun h2 => ?_, fun h2 => ?_⟩
    · skip
      (simp only [Int.reduceToNat, UInt8.reduceOfNat] at h2)
      have c2 := h2
      (simp only [Bool.not_eq_true', Bool.not_eq_false', Bool.not_true, Bool.not_false, Bool.and_eq_true, Bool.or_eq_true, Bool.and_eq_false_iff, Bool.or_eq_false_iff, Bool.not_not, beq_true, beq_false, decide_eq_true_eq, decide_eq_false_iff_not] at c2)
      exact absurd c2 (by decide)
    · skip
      (simp only [Int.reduceToNat, UInt8.reduceOfNat] at h2)
      have c2 := h2
      (simp only [Bool.not_eq_true', Bool.not_eq_false', Bool.not_true, Bool.not_false, Bool.and_eq_true, Bool.or_eq_true, Bool.and_eq_false_iff, Bool.or_eq_false_iff, Bool.not_not, beq_true, beq_false, decide_eq_true_eq, decide_eq_false_iff_not] at c2)
      refine ⟨_, _, _, _, hS, ?_⟩
      repeat (refine Ob.mk ?_ ?_; focus ((exact Eq.refl _)))
      refine ⟨_, _, _, _, hM, ?_⟩
      repeat (refine Ob.mk ?_ ?_; focus ((exact Eq.refl _)))
      refine ⟨fun h3 => ?_, fun h3 => ?_⟩
      · skip
        (simp only [Int.reduceToNat, UInt8.reduceOfNat] at h3)
        have c3 := h3
        (simp only [Bool.not_eq_true', Bool.not_eq_false', Bool.not_true, Bool.not_false, Bool.and_eq_true, Bool.or_eq_true, Bool.and_eq_false_iff, Bool.or_eq_false_iff, Bool.not_not, beq_true, beq_false, decide_eq_true_eq, decide_eq_false_iff_not] at c3)
        exact absurd c3 (by decide)
      · skip
        (simp only [Int.reduceToNat, UInt8.reduceOfNat] at h3)
        have c3 := h3
        (simp only [Bool.not_eq_true', Bool.not_eq_false', Bool.not_true, Bool.not_false, Bool.and_eq_true, Bool.or_eq_true, Bool.and_eq_false_iff, Bool.or_eq_false_iff, Bool.not_not, beq_true, beq_false, decide_eq_true_eq, decide_eq_false_iff_not] at c3)
        repeat (refine Ob.mk ?_ ?_; (focus (((simp only [SrcE.len, Nat.zero_add, List.length_append, List.length_cons, List.length_nil]; omega)))))
        refine ⟨_, _, _, _, (@cf_shNumber ?_), ?_⟩
        rotate_left 1
        repeat (refine Ob.mk ?_ ?_; focus ((exact Eq.refl _)))
        refine ⟨_, _, _, _, (@cf_shNumber ?_), ?_⟩
        rotate_left 1
        repeat (refine Ob.mk ?_ ?_; focus ((exact Eq.refl _)))
        refine ⟨_, _, _, _, hT, ?_⟩
        repeat (refine Ob.mk ?_ ?_; focus ((exact Eq.refl _)))
        refine ⟨[0, 0, 2, 0, 0, 24, 63, 0, 127, 511, 1023], by kernel_rfl, ?_⟩
        repeat (refine Ob.mk ?_ ?_; (focus (first | (exact Eq.refl _) | (simp only [SrcE.len, Nat.zero_add, List.length_append, List.length_cons, List.length_nil]; first | done | omega))))
        trivial
set_option maxRecDepth 100000 in
set_option maxHeartbeats 4000000 in
theorem cf_FinishO {o p s h b : List UInt8} {live : Bool} {hm bn st snd rcv now : Int} (he : fiE o p s h live hm snd rcv b = 0) (ho : hexC o = 0) (hp : hexC p = 0) (hne : ¬ o = p) (hc : s = [] ∨ hexC s = 0) (hh : h.length = 16) (h1 : 1 ≤ snd ∧ snd ≤ 4294967295) (h2 : 1 ≤ rcv ∧ rcv ≤ 4294967295) (h3 : 0 ≤ now ∧ now ≤ 1099511627776) (hb : b.length = 24) : Cf Try.prog 49 [] [.s o, .s p, .s s, .agg [.b live, .i hm, .s h, .i bn, .i st], .agg [.i 2, .i snd, .i rcv, .i 0, .bs b], .i now] [] (.tup [(makeK (secS o p s) h (hexText (b.take 8)) true hm snd now).ev, .i 0]) := by
  obtain ⟨e1, e2, e3⟩ := fiE_ok he
  subst e1; subst e2
  have hW := cf_wCheck (t := 2) (s := snd) (r := rcv) (c := 0) (l := b)
  have hw : wChk 2 snd rcv 0 b.length = 0 := by rw [hb]; exact wAns (by omega) (by omega) (by omega) (by omega)
  rw [hw] at hW
  have hS := cf_Secret ho hp hc
  rw [if_neg hne, if_neg hne] at hS
  have l8 : (b.take 8).length = 8 := by rw [List.length_take]; omega
  have hT := cf_shTag (s := secS o p s) (w := answerW ++ h) (a := num4 rcv) (b := num4 snd) (c := b.take 8) (secS_key _ _ _) (by rw [num4_length, num4_length, l8, List.length_append, hh]; decide)
  have hX := cf_hexText (l := b.take 8) (by omega)
  have hM := cf_kyMake (s := secS o p s) (h := h) (a := hexText (b.take 8)) (fs := true) (mine := rcv) (theirs := snd) (now := now) (secS_key _ _ _) hh (by rw [hexText_length]; omega) h2 h1 h3
  refine Cf.introR tabT {} (DR _ _ _ tabT {}) (by kernel_rfl) tab_ok Try.func49 Try.ntmps49 rfl rfl (DR_ok tab_ok (by kernel_rfl)) (by kernel_rfl) ?_
  refine ⟨_, _, _, _, hW, ?_⟩
  repeat (refine Ob.mk ?_ ?_; focus ((exact Eq.refl _)))
  refine ⟨fun h1 => ?_, fun h1 => ?_⟩
  · skip
    (simp only [Int.reduceToNat, UInt8.reduceOfNat] at h1)
    have c1 := h1
    (simp only [Bool.not_eq_true', Bool.not_eq_false', Bool.not_true, Bool.not_false, Bool.and_eq_true, Bool.or_eq_true, Bool.and_eq_false_iff, Bool.or_eq_false_iff, Bool.not_not, beq_true, beq_false, decide_eq_true_eq, decide_eq_false_iff_not] at c1)
    repeat (refine Ob.mk ?_ ?_; (focus (first | (exact Eq.refl _) | assumption | (simp_all; done))))
    trivial
  · skip
    (simp only [Int.reduceToNat, UInt8.reduceOfNat] at h1)
    have c1 := h1
    (simp only [Bool.not_eq_true', Bool.not_eq_false', Bool.not_true, Bool.not_false, Bool.and_eq_true, Bool.or_eq_true, Bool.and_eq_false_iff, Bool.or_eq_false_iff, Bool.not_not, beq_true, beq_false, decide_eq_true_eq, decide_eq_false_iff_not] at c1)
    refine ⟨fun h2 => ?_, fun h2 => ?_⟩
    · skip
      (simp only [Int.reduceToNat, UInt8.reduceOfNat] at h2)
      have c2 := h2
      (simp only [Bool.not_eq_true', Bool.not_eq_false', Bool.not_true, Bool.not_false, Bool.and_eq_true, Bool.or_eq_true, Bool.and_eq_false_iff, Bool.or_eq_false_iff, Bool.not_not, beq_true, beq_false, decide_eq_true_eq, decide_eq_false_iff_not] at c2)
      repeat (refine Ob.mk ?_ ?_; (focus (first | (exact Eq.refl _) | assumption | (simp_all; done))))
      trivial
    · skip
      (simp only [Int.reduceToNat, UInt8.reduceOfNat] at h2)
      have c2 := h2
      (simp only [Bool.not_eq_true', Bool.not_eq_false', Bool.not_true, Bool.not_false, Bool.and_eq_true, Bool.or_eq_true, Bool.and_eq_false_iff, Bool.or_eq_false_iff, Bool.not_not, beq_true, beq_false, decide_eq_true_eq, decide_eq_false_iff_not] at c2)
      repeat (refine Ob.mk ?_ ?_; (focus (((intro _; exact Eq.refl _)))))
      refine ⟨fun h3 => ?_, fun h3 => ?_⟩
      · skip
        (simp only [Int.reduceToNat, UInt8.reduceOfNat] at h3)
        have c3 := h3
        (simp only [Bool.not_eq_true', Bool.not_eq_false', Bool.not_true, Bool.not_false, Bool.and_eq_true, Bool.or_eq_true, Bool.and_eq_false_iff, Bool.or_eq_false_iff, Bool.not_not, beq_true, beq_false, decide_eq_true_eq, decide_eq_false_iff_not] at c3)
        repeat (refine Ob.mk ?_ ?_; (focus (first | (exact Eq.refl _) | assumption | (simp_all; done))))
        trivial
      · skip
        (simp only [Int.reduceToNat, UInt8.reduceOfNat] at h3)
        have c3 := h3
        (simp only [Bool.not_eq_true', Bool.not_eq_false', Bool.not_true, Bool.not_false, Bool.and_eq_true, Bool.or_eq_true, Bool.and_eq_false_iff, Bool.or_eq_false_iff, Bool.not_not, beq_true, beq_false, decide_eq_true_eq, decide_eq_false_iff_not] at c3)
        refine ⟨_, _, _, _, hS, ?_⟩
        repeat (refine Ob.mk ?_ ?_; focus ((exact Eq.refl _)))
        refine ⟨fun h4 => ?_, fun h4 => ?_⟩
        · skip
          (simp only [Int.reduceToNat, UInt8.reduceOfNat] at h4)
          have c4 := h4
          (simp only [Bool.not_eq_true', Bool.not_eq_false', Bool.not_true, Bool.not_false, Bool.and_eq_true, Bool.or_eq_true, Bool.and_eq_false_iff, Bool.or_eq_false_iff, Bool.not_not, beq_true, beq_false, decide_eq_true_eq, decide_eq_false_iff_not] at c4)
          repeat (refine Ob.mk ?_ ?_; (focus (first | (exact Eq.refl _) | assumption | (simp_all; done))))
          trivial
        · skip
          (simp only [Int.reduceToNat, UInt8.reduceOfNat] at h4)
          have c4 := h4
          (simp only [Bool.not_eq_true', Bool.not_eq_false', Bool.not_true, Bool.not_false, Bool.and_eq_true, Bool.or_eq_true, Bool.and_eq_false_iff, Bool.or_eq_false_iff, Bool.not_not, beq_true, beq_false, decide_eq_true_eq, decide_eq_false_iff_not] at c4)
          refine ⟨fun h5 => ?_, fun h5 => ?_⟩
          · skip
            have c5 := h5
            (simp only [Bool.not_eq_true', Bool.not_eq_false', Bool.not_true, Bool.not_false, Bool.and_eq_true, Bool.or_eq_true, Bool.and_eq_false_iff, Bool.or_eq_false_iff, Bool.not_not, beq_true, beq_false, decide_eq_true_eq, decide_eq_false_iff_not] at c5)
            repeat (refine Ob.mk ?_ ?_; focus (first | (exact Eq.refl _) | omega))
            trivial
          · skip
            have c5 := h5
            (simp only [Bool.not_eq_true', Bool.not_eq_false', Bool.not_true, Bool.not_false, Bool.and_eq_true, Bool.or_eq_true, Bool.and_eq_false_iff, Bool.or_eq_false_iff, Bool.not_not, beq_true, beq_false, decide_eq_true_eq, decide_eq_false_iff_not] at c5)
            refine ⟨[0, 0, 2, 6, 0, 16, 48, 0, 128, 496, 0, 1024, 3072, 8176, 16383, 32767, 65535, 65535, 131071, 524287], by kernel_rfl, ?_⟩
            repeat (refine Ob.mk ?_ ?_; (focus (((simp only [SrcE.len, Nat.zero_add, List.length_append, List.length_cons, List.length_nil]; omega)))))
            refine ⟨_, _, _, _, (@cf_shNumber ?_), ?_⟩
            rotate_left 1
            repeat (refine Ob.mk ?_ ?_; focus ((exact Eq.refl _)))
            refine ⟨_, _, _, _, (@cf_shNumber ?_), ?_⟩
            rotate_left 1
            repeat (refine Ob.mk ?_ ?_; focus (first | (exact Eq.refl _) | omega))
            refine ⟨_, _, _, _, hT, ?_⟩
            repeat (refine Ob.mk ?_ ?_; focus (first | (exact Eq.refl _) | omega))
            refine ⟨_, _, _, _, (@cf_bytesEqual ?_ ?_), ?_⟩
            rotate_left 2
            repeat (refine Ob.mk ?_ ?_; focus ((exact Eq.refl _)))
            refine ⟨fun h6 => ?_, fun h6 => ?_⟩
            · skip
              (simp only [Int.reduceToNat, UInt8.reduceOfNat] at h6)
              have c6 := h6
              (simp only [Bool.not_eq_true', Bool.not_eq_false', Bool.not_true, Bool.not_false, Bool.and_eq_true, Bool.or_eq_true, Bool.and_eq_false_iff, Bool.or_eq_false_iff, Bool.not_not, beq_true, beq_false, decide_eq_true_eq, decide_eq_false_iff_not] at c6)
              repeat (refine Ob.mk ?_ ?_; (focus (first | (exact Eq.refl _) | (simp_all; done))))
              trivial
            · skip
              (simp only [Int.reduceToNat, UInt8.reduceOfNat] at h6)
              have c6 := h6
              (simp only [Bool.not_eq_true', Bool.not_eq_false', Bool.not_true, Bool.not_false, Bool.and_eq_true, Bool.or_eq_true, Bool.and_eq_false_iff, Bool.or_eq_false_iff, Bool.not_not, beq_true, beq_false, decide_eq_true_eq, decide_eq_false_iff_not] at c6)
              refine ⟨[0, 0, 2, 0, 8, 24, 56, 0, 128, 0, 512, 0, 4095, 8191, 8191, 32767, 65535], by kernel_rfl, ?_⟩
              repeat (refine Ob.mk ?_ ?_; focus (omega))
              refine ⟨_, _, _, _, hX, ?_⟩
              repeat (refine Ob.mk ?_ ?_; focus ((exact Eq.refl _)))
              refine ⟨_, _, _, _, hM, ?_⟩
              repeat (refine Ob.mk ?_ ?_; focus ((exact Eq.refl _)))
              trivial
set_option maxRecDepth 100000 in
set_option maxHeartbeats 4000000 in
theorem cf_FinishE {o p s h b : List UInt8} {live : Bool} {hm bn st snd rcv now : Int} (he : ¬ fiE o p s h live hm snd rcv b = 0) (ho : hexC o = 0) (hp : hexC p = 0) (hne : ¬ o = p) (hc : s = [] ∨ hexC s = 0) (hh : live = true → h.length = 16) (h1 : 1 ≤ snd ∧ snd ≤ 4294967295) (h2 : 1 ≤ rcv ∧ rcv ≤ 4294967295) (h3 : 0 ≤ now ∧ now ≤ 1099511627776) (hb : b.length = 24) : Cf Try.prog 49 [] [.s o, .s p, .s s, .agg [.b live, .i hm, .s h, .i bn, .i st], .agg [.i 2, .i snd, .i rcv, .i 0, .bs b], .i now] [] (.tup [kz, .i (fiE o p s h live hm snd rcv b)]) := by
  have hW := cf_wCheck (t := 2) (s := snd) (r := rcv) (c := 0) (l := b)
  have hw : wChk 2 snd rcv 0 b.length = 0 := by rw [hb]; exact wAns (by omega) (by omega) (by omega) (by omega)
  rw [hw] at hW
  have hS := cf_Secret ho hp hc
  rw [if_neg hne, if_neg hne] at hS
  have l8 : (b.take 8).length = 8 := by rw [List.length_take]; omega
  refine Cf.introR tabT {} (DR _ _ _ tabT {}) (by kernel_rfl) tab_ok Try.func49 Try.ntmps49 rfl rfl (DR_ok tab_ok (by kernel_rfl)) (by kernel_rfl) ?_
  refine ⟨_, _, _, _, hW, ?_⟩
  repeat (refine Ob.mk ?_ ?_; focus ((exact Eq.refl _)))
  refine ⟨fun h1 => ?_, fun h1 => ?_⟩
  · skip
    (simp only [Int.reduceToNat, UInt8.reduceOfNat] at h1)
    have c1 := h1
    (simp only [Bool.not_eq_true', Bool.not_eq_false', Bool.not_true, Bool.not_false, Bool.and_eq_true, Bool.or_eq_true, Bool.and_eq_false_iff, Bool.or_eq_false_iff, Bool.not_not, beq_true, beq_false, decide_eq_true_eq, decide_eq_false_iff_not] at c1)
    exact absurd c1 (by decide)
  · skip
    (simp only [Int.reduceToNat, UInt8.reduceOfNat] at h1)
    have c1 := h1
    (simp only [Bool.not_eq_true', Bool.not_eq_false', Bool.not_true, Bool.not_false, Bool.and_eq_true, Bool.or_eq_true, Bool.and_eq_false_iff, Bool.or_eq_false_iff, Bool.not_not, beq_true, beq_false, decide_eq_true_eq, decide_eq_false_iff_not] at c1)
    refine ⟨fun h2 => ?_, fun h2 => ?_⟩
    · skip
      (simp only [Int.reduceToNat, UInt8.reduceOfNat] at h2)
      have c2 := h2
      (simp only [Bool.not_eq_true', Bool.not_eq_false', Bool.not_true, Bool.not_false, Bool.and_eq_true, Bool.or_eq_true, Bool.and_eq_false_iff, Bool.or_eq_false_iff, Bool.not_not, beq_true, beq_false, decide_eq_true_eq, decide_eq_false_iff_not] at c2)
      exact absurd c2 (by decide)
    · skip
      (simp only [Int.reduceToNat, UInt8.reduceOfNat] at h2)
      have c2 := h2
      (simp only [Bool.not_eq_true', Bool.not_eq_false', Bool.not_true, Bool.not_false, Bool.and_eq_true, Bool.or_eq_true, Bool.and_eq_false_iff, Bool.or_eq_false_iff, Bool.not_not, beq_true, beq_false, decide_eq_true_eq, decide_eq_false_iff_not] at c2)
      repeat (refine Ob.mk ?_ ?_; focus (first | (exact fun hg => beq_f hg) | (exact fun hg => hg)))
      refine ⟨fun h3 => ?_, fun h3 => ?_⟩
      · skip
        have c3 := h3
        (simp only [Bool.not_eq_true', Bool.not_eq_false', Bool.not_true, Bool.not_false, Bool.and_eq_true, Bool.or_eq_true, Bool.and_eq_false_iff, Bool.or_eq_false_iff, Bool.not_not, beq_true, beq_false, decide_eq_true_eq, decide_eq_false_iff_not] at c3)
        repeat (refine Ob.mk ?_ ?_; (focus (first | (exact Eq.refl _) | (simp only [fiE, h1, h2, h3, Bool.cond_decide, Bool.cond_not, cond_true, cond_false, Bool.not_true, Bool.not_false, Bool.and_true, Bool.true_and, Bool.and_false, Bool.false_and, Bool.or_true, Bool.true_or, Bool.or_false, Bool.false_or]; simp (disch := omega) only [if_pos, if_neg]; done))))
        trivial
      · skip
        have c3 := h3
        (simp only [Bool.not_eq_true', Bool.not_eq_false', Bool.not_true, Bool.not_false, Bool.and_eq_true, Bool.or_eq_true, Bool.and_eq_false_iff, Bool.or_eq_false_iff, Bool.not_not, beq_true, beq_false, decide_eq_true_eq, decide_eq_false_iff_not] at c3)
        have hl16 := hh c3.1
        refine ⟨_, _, _, _, hS, ?_⟩
        repeat (refine Ob.mk ?_ ?_; focus ((exact Eq.refl _)))
        refine ⟨fun h4 => ?_, fun h4 => ?_⟩
        · skip
          (simp only [Int.reduceToNat, UInt8.reduceOfNat] at h4)
          have c4 := h4
          (simp only [Bool.not_eq_true', Bool.not_eq_false', Bool.not_true, Bool.not_false, Bool.and_eq_true, Bool.or_eq_true, Bool.and_eq_false_iff, Bool.or_eq_false_iff, Bool.not_not, beq_true, beq_false, decide_eq_true_eq, decide_eq_false_iff_not] at c4)
          exact absurd c4 (by decide)
        · skip
          (simp only [Int.reduceToNat, UInt8.reduceOfNat] at h4)
          have c4 := h4
          (simp only [Bool.not_eq_true', Bool.not_eq_false', Bool.not_true, Bool.not_false, Bool.and_eq_true, Bool.or_eq_true, Bool.and_eq_false_iff, Bool.or_eq_false_iff, Bool.not_not, beq_true, beq_false, decide_eq_true_eq, decide_eq_false_iff_not] at c4)
          refine ⟨fun h5 => ?_, fun h5 => ?_⟩
          · skip
            have c5 := h5
            (simp only [Bool.not_eq_true', Bool.not_eq_false', Bool.not_true, Bool.not_false, Bool.and_eq_true, Bool.or_eq_true, Bool.and_eq_false_iff, Bool.or_eq_false_iff, Bool.not_not, beq_true, beq_false, decide_eq_true_eq, decide_eq_false_iff_not] at c5)
            exact absurd hl16 (by omega)
          · skip
            have c5 := h5
            (simp only [Bool.not_eq_true', Bool.not_eq_false', Bool.not_true, Bool.not_false, Bool.and_eq_true, Bool.or_eq_true, Bool.and_eq_false_iff, Bool.or_eq_false_iff, Bool.not_not, beq_true, beq_false, decide_eq_true_eq, decide_eq_false_iff_not] at c5)
            have hT := cf_shTag (s := secS o p s) (w := answerW ++ h) (a := num4 rcv) (b := num4 snd) (c := b.take 8) (secS_key _ _ _) (by rw [num4_length, num4_length, l8, List.length_append, hl16]; decide)
            refine ⟨[0, 0, 2, 6, 0, 16, 48, 0, 128, 496, 0, 1024, 3072, 8176, 16383, 32767, 65535, 65535, 131071, 524287], by kernel_rfl, ?_⟩
            repeat (refine Ob.mk ?_ ?_; (focus (((simp only [SrcE.len, Nat.zero_add, List.length_append, List.length_cons, List.length_nil]; omega)))))
            refine ⟨_, _, _, _, (@cf_shNumber ?_), ?_⟩
            rotate_left 1
            repeat (refine Ob.mk ?_ ?_; focus ((exact Eq.refl _)))
            refine ⟨_, _, _, _, (@cf_shNumber ?_), ?_⟩
            rotate_left 1
            repeat (refine Ob.mk ?_ ?_; focus (first | (exact Eq.refl _) | omega))
            refine ⟨_, _, _, _, hT, ?_⟩
            repeat (refine Ob.mk ?_ ?_; focus (first | (exact Eq.refl _) | omega))
            refine ⟨_, _, _, _, (@cf_bytesEqual ?_ ?_), ?_⟩
            rotate_left 2
            repeat (refine Ob.mk ?_ ?_; focus ((exact Eq.refl _)))
            refine ⟨fun h6 => ?_, fun h6 => ?_⟩
            · skip
              (simp only [Int.reduceToNat, UInt8.reduceOfNat] at h6)
              have c6 := h6
              (simp only [Bool.not_eq_true', Bool.not_eq_false', Bool.not_true, Bool.not_false, Bool.and_eq_true, Bool.or_eq_true, Bool.and_eq_false_iff, Bool.or_eq_false_iff, Bool.not_not, beq_true, beq_false, decide_eq_true_eq, decide_eq_false_iff_not] at c6)
              repeat (refine Ob.mk ?_ ?_; (focus (first | (exact Eq.refl _) | (simp_all [fiE]; done))))
              trivial
            · skip
              (simp only [Int.reduceToNat, UInt8.reduceOfNat] at h6)
              have c6 := h6
              (simp only [Bool.not_eq_true', Bool.not_eq_false', Bool.not_true, Bool.not_false, Bool.and_eq_true, Bool.or_eq_true, Bool.and_eq_false_iff, Bool.or_eq_false_iff, Bool.not_not, beq_true, beq_false, decide_eq_true_eq, decide_eq_false_iff_not] at c6)
              refine absurd ?_ he
              simp_all [fiE]
set_option maxRecDepth 100000 in
set_option maxHeartbeats 4000000 in
theorem cf_FinishKE {o p s h b : List UInt8} {live : Bool} {hm bn st snd now : Int} (h1 : 1 ≤ snd ∧ snd ≤ 4294967295) (hb : b.length = 32) : Cf Try.prog 49 [] [.s o, .s p, .s s, .agg [.b live, .i hm, .s h, .i bn, .i st], .agg [.i 1, .i snd, .i 0, .i 0, .bs b], .i now] [] (.tup [kz, .i 2]) := by
  have hW := cf_wCheck (t := 1) (s := snd) (r := 0) (c := 0) (l := b)
  have hw : wChk 1 snd 0 0 b.length = 0 := by rw [hb]; exact wHlo (by omega) (by omega)
  rw [hw] at hW
  refine Cf.introR tabT {} (DR _ _ _ tabT {}) (by kernel_rfl) tab_ok Try.func49 Try.ntmps49 rfl rfl (DR_ok tab_ok (by kernel_rfl)) (by kernel_rfl) ?_
  refine ⟨_, _, _, _, hW, ?_⟩
  repeat (refine Ob.mk ?_ ?_; focus ((exact Eq.refl _)))
  refine ⟨fun h1 => ?_, fun h1 => ?_⟩
  · skip
    (simp only [Int.reduceToNat, UInt8.reduceOfNat] at h1)
    have c1 := h1
    (simp only [Bool.not_eq_true', Bool.not_eq_false', Bool.not_true, Bool.not_false, Bool.and_eq_true, Bool.or_eq_true, Bool.and_eq_false_iff, Bool.or_eq_false_iff, Bool.not_not, beq_true, beq_false, decide_eq_true_eq, decide_eq_false_iff_not] at c1)
    repeat (refine Ob.mk ?_ ?_; (focus (first | (exact Eq.refl _) | (simp_all; done))))
    trivial
  · skip
    (simp only [Int.reduceToNat, UInt8.reduceOfNat] at h1)
    have c1 := h1
    (simp only [Bool.not_eq_true', Bool.not_eq_false', Bool.not_true, Bool.not_false, Bool.and_eq_true, Bool.or_eq_true, Bool.and_eq_false_iff, Bool.or_eq_false_iff, Bool.not_not, beq_true, beq_false, decide_eq_true_eq, decide_eq_false_iff_not] at c1)
    refine ⟨fun h2 => ?_, fun h2 => ?_⟩
    · skip
      have c2 := h2
      (simp only [Bool.not_eq_true', Bool.not_eq_false', Bool.not_true, Bool.not_false, Bool.and_eq_true, Bool.or_eq_true, Bool.and_eq_false_iff, Bool.or_eq_false_iff, Bool.not_not, beq_true, beq_false, decide_eq_true_eq, decide_eq_false_iff_not] at c2)
      repeat (refine Ob.mk ?_ ?_; focus ((exact Eq.refl _)))
      trivial
    · skip
      have c2 := h2
      (simp only [Bool.not_eq_true', Bool.not_eq_false', Bool.not_true, Bool.not_false, Bool.and_eq_true, Bool.or_eq_true, Bool.and_eq_false_iff, Bool.or_eq_false_iff, Bool.not_not, beq_true, beq_false, decide_eq_true_eq, decide_eq_false_iff_not] at c2)
      repeat (refine Ob.mk ?_ ?_; focus (omega))
      refine ⟨fun h3 => ?_, fun h3 => ?_⟩
      · skip
        have c3 := h3
        (simp only [Bool.not_eq_true', Bool.not_eq_false', Bool.not_true, Bool.not_false, Bool.and_eq_true, Bool.or_eq_true, Bool.and_eq_false_iff, Bool.or_eq_false_iff, Bool.not_not, beq_true, beq_false, decide_eq_true_eq, decide_eq_false_iff_not] at c3)
        repeat (refine Ob.mk ?_ ?_; focus (first | (exact Eq.refl _) | omega))
        trivial
      · skip
        have c3 := h3
        (simp only [Bool.not_eq_true', Bool.not_eq_false', Bool.not_true, Bool.not_false, Bool.and_eq_true, Bool.or_eq_true, Bool.and_eq_false_iff, Bool.or_eq_false_iff, Bool.not_not, beq_true, beq_false, decide_eq_true_eq, decide_eq_false_iff_not] at c3)
        refine ⟨_, _, _, _, (@cf_Secret ?_ ?_ ?_ ?_ ?_ ?_), ?_⟩
        rotate_left 6
        repeat (refine Ob.mk ?_ ?_; focus ((exact Eq.refl _)))
        refine ⟨fun h4 => ?_, fun h4 => ?_⟩
        · skip
          have c4 := h4
          (simp only [Bool.not_eq_true', Bool.not_eq_false', Bool.not_true, Bool.not_false, Bool.and_eq_true, Bool.or_eq_true, Bool.and_eq_false_iff, Bool.or_eq_false_iff, Bool.not_not, beq_true, beq_false, decide_eq_true_eq, decide_eq_false_iff_not] at c4)
          repeat (refine Ob.mk ?_ ?_; focus (first | (exact Eq.refl _) | omega))
          trivial
        · skip
          have c4 := h4
          (simp only [Bool.not_eq_true', Bool.not_eq_false', Bool.not_true, Bool.not_false, Bool.and_eq_true, Bool.or_eq_true, Bool.and_eq_false_iff, Bool.or_eq_false_iff, Bool.not_not, beq_true, beq_false, decide_eq_true_eq, decide_eq_false_iff_not] at c4)
          refine ⟨fun h5 => ?_, fun h5 => ?_⟩
          · skip
            have c5 := h5
            (simp only [Bool.not_eq_true', Bool.not_eq_false', Bool.not_true, Bool.not_false, Bool.and_eq_true, Bool.or_eq_true, Bool.and_eq_false_iff, Bool.or_eq_false_iff, Bool.not_not, beq_true, beq_false, decide_eq_true_eq, decide_eq_false_iff_not] at c5)
            repeat (refine Ob.mk ?_ ?_; focus (first | (exact Eq.refl _) | assumption))
            trivial
          · skip
            have c5 := h5
            (simp only [Bool.not_eq_true', Bool.not_eq_false', Bool.not_true, Bool.not_false, Bool.and_eq_true, Bool.or_eq_true, Bool.and_eq_false_iff, Bool.or_eq_false_iff, Bool.not_not, beq_true, beq_false, decide_eq_true_eq, decide_eq_false_iff_not] at c5)
            refine ⟨[0, 0, 2, 6, 0, 16, 48, 0, 128, 496, 0, 1024, 3072, 8176, 16383, 32767, 65535, 65535, 131071, 524287], by kernel_rfl, ?_⟩
            repeat (refine Ob.mk ?_ ?_; focus (omega))
            refine ⟨_, _, _, _, (@cf_shNumber ?_), ?_⟩
            rotate_left 1
            repeat (refine Ob.mk ?_ ?_; focus ((exact Eq.refl _)))
            refine ⟨_, _, _, _, (@cf_shNumber ?_), ?_⟩
            rotate_left 1
            repeat (refine Ob.mk ?_ ?_; focus (first | (exact Eq.refl _) | omega))
            refine ⟨_, _, _, _, (@cf_shTag ?_ ?_ ?_ ?_ ?_ ?_ ?_), ?_⟩
            rotate_left 7
            repeat (refine Ob.mk ?_ ?_; focus (first | (exact Eq.refl _) | omega))
            refine ⟨_, _, _, _, (@cf_bytesEqual ?_ ?_), ?_⟩
            rotate_left 2
            repeat (refine Ob.mk ?_ ?_; focus ((exact Eq.refl _)))
            refine ⟨fun h6 => ?_, fun h6 => ?_⟩
            · skip
              (simp only [Int.reduceToNat, UInt8.reduceOfNat] at h6)
              have c6 := h6
              (simp only [Bool.not_eq_true', Bool.not_eq_false', Bool.not_true, Bool.not_false, Bool.and_eq_true, Bool.or_eq_true, Bool.and_eq_false_iff, Bool.or_eq_false_iff, Bool.not_not, beq_true, beq_false, decide_eq_true_eq, decide_eq_false_iff_not] at c6)
              repeat (refine Ob.mk ?_ ?_; focus (first | (exact Eq.refl _) | omega))
              trivial
            · skip
              (simp only [Int.reduceToNat, UInt8.reduceOfNat] at h6)
              have c6 := h6
              (simp only [Bool.not_eq_true', Bool.not_eq_false', Bool.not_true, Bool.not_false, Bool.and_eq_true, Bool.or_eq_true, Bool.and_eq_false_iff, Bool.or_eq_false_iff, Bool.not_not, beq_true, beq_false, decide_eq_true_eq, decide_eq_false_iff_not] at c6)
              refine ⟨[0, 0, 2, 0, 8, 24, 56, 0, 128, 0, 512, 0, 4095, 8191, 8191, 32767, 65535], by kernel_rfl, ?_⟩
              repeat (refine Ob.mk ?_ ?_; focus (omega))
              refine ⟨_, _, _, _, (@cf_hexText ?_ ?_), ?_⟩
              rotate_left 2
              repeat (refine Ob.mk ?_ ?_; focus ((exact Eq.refl _)))
              refine ⟨_, _, _, _, (@cf_kyMake ?_ ?_ ?_ ?_ ?_ ?_ ?_ ?_ ?_ ?_ ?_ ?_ ?_), ?_⟩
              rotate_left 13
              repeat (refine Ob.mk ?_ ?_; focus (first | (exact Eq.refl _) | assumption | omega))
              trivial
              all_goals (first | assumption | omega)
            all_goals (omega)
        all_goals (omega)
end Go.Proofs.Ytpcagbfnddgjpaa
