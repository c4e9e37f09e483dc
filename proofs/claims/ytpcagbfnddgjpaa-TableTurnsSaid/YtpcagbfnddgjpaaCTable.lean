/- package table: slots of keys; contracts. -/
import Derived.Test.YtpcagbfnddgjpaaCKeysG
namespace Go.Proofs.Ytpcagbfnddgjpaa
open Go.RowKit
set_option linter.unusedVariables false
set_option linter.unusedSimpArgs false

/-- Three places for keys. -/
abbrev stE3 (c l n : KS) : EV := .agg [.b c.live, .s c.send, .s c.take, .i c.mine, .i c.theirs, .i c.born, .i c.cnt, .b c.sn, .i c.la, .u64 c.bi, .b c.first, .b l.live, .s l.send, .s l.take, .i l.mine, .i l.theirs, .i l.born, .i l.cnt, .b l.sn, .i l.la, .u64 l.bi, .b l.first, .b n.live, .s n.send, .s n.take, .i n.mine, .i n.theirs, .i n.born, .i n.cnt, .b n.sn, .i n.la, .u64 n.bi, .b n.first]
set_option maxRecDepth 100000 in
set_option maxHeartbeats 4000000 in
theorem cf_TurnI {c l n k : KS} (h1 : c.ck = 0) (h2 : l.ck = 0) (h3 : n.ck = 0) (h4 : k.ck = 0) (hl : k.live = false) : Cf Try.prog 40 [] [stE3 c l n, k.ev] [] (.tup [stE3 KS.z KS.z KS.z, .i 13]) := by
  have q0 := cf_kyCheck (k := c); rw [h1] at q0
  have q1 := cf_kyCheck (k := l); rw [h2] at q1
  have q2 := cf_kyCheck (k := n); rw [h3] at q2
  have q3 := cf_kyCheck (k := k); rw [h4] at q3
  refine Cf.introR tabT {} D0 (by kernel_rfl) tab_ok Try.func40 Try.ntmps40 rfl rfl (D0_ok) (by kernel_rfl) ?_
  refine ⟨Nat, fun j => ⟨[(2, .own 1002 0), (3, .own 1003 0), (4, .own 1004 0), (16, .agg [.b c.live, .s c.send, .s c.take, .i c.mine, .i c.theirs, .i c.born, .i c.cnt, .b c.sn, .i c.la, .u64 c.bi, .b c.first, .b l.live, .s l.send, .s l.take, .i l.mine, .i l.theirs, .i l.born, .i l.cnt, .b l.sn, .i l.la, .u64 l.bi, .b l.first, .b n.live, .s n.send, .s n.take, .i n.mine, .i n.theirs, .i n.born, .i n.cnt, .b n.sn, .i n.la, .u64 n.bi, .b n.first, .b k.live, .s k.send, .s k.take, .i k.mine, .i k.theirs, .i k.born, .i k.cnt, .b k.sn, .i k.la, .u64 k.bi, .b k.first]), (17, .i (j : Int))], [(1002, .box [.b c.live, .s c.send, .s c.take, .i c.mine, .i c.theirs, .i c.born, .i c.cnt, .b c.sn, .i c.la, .u64 c.bi, .b c.first, .b l.live, .s l.send, .s l.take, .i l.mine, .i l.theirs, .i l.born, .i l.cnt, .b l.sn, .i l.la, .u64 l.bi, .b l.first, .b n.live, .s n.send, .s n.take, .i n.mine, .i n.theirs, .i n.born, .i n.cnt, .b n.sn, .i n.la, .u64 n.bi, .b n.first] 56), (1003, .box [.b k.live, .s k.send, .s k.take, .i k.mine, .i k.theirs, .i k.born, .i k.cnt, .b k.sn, .i k.la, .u64 k.bi, .b k.first] 52), (1004, .box [.b false, .s [], .s [], .i 0, .i 0, .i 0, .i 0, .b false, .i 0, .u64 (UInt64.ofNat 0), .b false, .b false, .s [], .s [], .i 0, .i 0, .i 0, .i 0, .b false, .i 0, .u64 (UInt64.ofNat 0), .b false, .b false, .s [], .s [], .i 0, .i 0, .i 0, .i 0, .b false, .i 0, .u64 (UInt64.ofNat 0), .b false] 56)]⟩, fun j => j ≤ 4, fun j => 4 - j, 0, by simp, ?_, fun j hx1 => ?_⟩
  · skip
    repeat (refine Ob.mk ?_ ?_; focus ((exact Eq.refl _)))
    trivial
  refine ⟨fun h1 => ?_, fun h1 => ?_⟩
  · skip
    have c1 := h1
    (simp only [Bool.not_eq_true', Bool.not_eq_false', Bool.not_true, Bool.not_false, Bool.and_eq_true, Bool.or_eq_true, Bool.and_eq_false_iff, Bool.or_eq_false_iff, Bool.not_not, beq_true, beq_false, decide_eq_true_eq, decide_eq_false_iff_not] at c1)
    rcases (by omega : j = 0 ∨ j = 1 ∨ j = 2 ∨ j = 3) with rfl | rfl | rfl | rfl
    · skip
      repeat (refine Ob.mk ?_ ?_; focus (omega))
      refine ⟨_, _, _, _, q0, ?_⟩
      repeat (refine Ob.mk ?_ ?_; focus ((exact Eq.refl _)))
      refine ⟨fun h2 => ?_, fun h2 => ?_⟩
      · skip
        (simp only [Int.reduceToNat, UInt8.reduceOfNat] at h2)
        have c2 := h2
        (simp only [Bool.not_eq_true', Bool.not_eq_false', Bool.not_true, Bool.not_false, Bool.and_eq_true, Bool.or_eq_true, Bool.and_eq_false_iff, Bool.or_eq_false_iff, Bool.not_not, beq_true, beq_false, decide_eq_true_eq, decide_eq_false_iff_not] at c2)
        exact absurd c2 (by decide)
      · skip
        (simp only [Int.reduceToNat, UInt8.reduceOfNat] at h2)
        have c2 := h2
        (simp only [Bool.not_eq_true', Bool.not_eq_false', Bool.not_true, Bool.not_false, Bool.and_eq_true, Bool.or_eq_true, Bool.and_eq_false_iff, Bool.or_eq_false_iff, Bool.not_not, beq_true, beq_false, decide_eq_true_eq, decide_eq_false_iff_not] at c2)
        repeat (refine Ob.mk ?_ ?_; focus (omega))
        refine ⟨0 + 1, (by omega), (by (exact Nat.le_of_ble_eq_true rfl)), ?_⟩
        repeat (refine Ob.mk ?_ ?_; focus ((exact Eq.refl _)))
        trivial
    · skip
      repeat (refine Ob.mk ?_ ?_; focus (omega))
      refine ⟨_, _, _, _, q1, ?_⟩
      repeat (refine Ob.mk ?_ ?_; focus ((exact Eq.refl _)))
      refine ⟨fun h3 => ?_, fun h3 => ?_⟩
      · skip
        (simp only [Int.reduceToNat, UInt8.reduceOfNat] at h3)
        have c3 := h3
        (simp only [Bool.not_eq_true', Bool.not_eq_false', Bool.not_true, Bool.not_false, Bool.and_eq_true, Bool.or_eq_true, Bool.and_eq_false_iff, Bool.or_eq_false_iff, Bool.not_not, beq_true, beq_false, decide_eq_true_eq, decide_eq_false_iff_not] at c3)
        exact absurd c3 (by decide)
      · skip
        (simp only [Int.reduceToNat, UInt8.reduceOfNat] at h3)
        have c3 := h3
        (simp only [Bool.not_eq_true', Bool.not_eq_false', Bool.not_true, Bool.not_false, Bool.and_eq_true, Bool.or_eq_true, Bool.and_eq_false_iff, Bool.or_eq_false_iff, Bool.not_not, beq_true, beq_false, decide_eq_true_eq, decide_eq_false_iff_not] at c3)
        repeat (refine Ob.mk ?_ ?_; focus (omega))
        refine ⟨1 + 1, (by omega), (by (exact Nat.le_of_ble_eq_true rfl)), ?_⟩
        repeat (refine Ob.mk ?_ ?_; focus ((exact Eq.refl _)))
        trivial
    · skip
      repeat (refine Ob.mk ?_ ?_; focus (omega))
      refine ⟨_, _, _, _, q2, ?_⟩
      repeat (refine Ob.mk ?_ ?_; focus ((exact Eq.refl _)))
      refine ⟨fun h4 => ?_, fun h4 => ?_⟩
      · skip
        (simp only [Int.reduceToNat, UInt8.reduceOfNat] at h4)
        have c4 := h4
        (simp only [Bool.not_eq_true', Bool.not_eq_false', Bool.not_true, Bool.not_false, Bool.and_eq_true, Bool.or_eq_true, Bool.and_eq_false_iff, Bool.or_eq_false_iff, Bool.not_not, beq_true, beq_false, decide_eq_true_eq, decide_eq_false_iff_not] at c4)
        exact absurd c4 (by decide)
      · skip
        (simp only [Int.reduceToNat, UInt8.reduceOfNat] at h4)
        have c4 := h4
        (simp only [Bool.not_eq_true', Bool.not_eq_false', Bool.not_true, Bool.not_false, Bool.and_eq_true, Bool.or_eq_true, Bool.and_eq_false_iff, Bool.or_eq_false_iff, Bool.not_not, beq_true, beq_false, decide_eq_true_eq, decide_eq_false_iff_not] at c4)
        repeat (refine Ob.mk ?_ ?_; focus (omega))
        refine ⟨2 + 1, (by omega), (by (exact Nat.le_of_ble_eq_true rfl)), ?_⟩
        repeat (refine Ob.mk ?_ ?_; focus ((exact Eq.refl _)))
        trivial
    · skip
      repeat (refine Ob.mk ?_ ?_; focus (omega))
      refine ⟨_, _, _, _, q3, ?_⟩
      repeat (refine Ob.mk ?_ ?_; focus ((exact Eq.refl _)))
      refine ⟨fun h5 => ?_, fun h5 => ?_⟩
      · skip
        (simp only [Int.reduceToNat, UInt8.reduceOfNat] at h5)
        have c5 := h5
        (simp only [Bool.not_eq_true', Bool.not_eq_false', Bool.not_true, Bool.not_false, Bool.and_eq_true, Bool.or_eq_true, Bool.and_eq_false_iff, Bool.or_eq_false_iff, Bool.not_not, beq_true, beq_false, decide_eq_true_eq, decide_eq_false_iff_not] at c5)
        exact absurd c5 (by decide)
      · skip
        (simp only [Int.reduceToNat, UInt8.reduceOfNat] at h5)
        have c5 := h5
        (simp only [Bool.not_eq_true', Bool.not_eq_false', Bool.not_true, Bool.not_false, Bool.and_eq_true, Bool.or_eq_true, Bool.and_eq_false_iff, Bool.or_eq_false_iff, Bool.not_not, beq_true, beq_false, decide_eq_true_eq, decide_eq_false_iff_not] at c5)
        repeat (refine Ob.mk ?_ ?_; focus (omega))
        refine ⟨3 + 1, (by omega), (by (exact Nat.le_of_ble_eq_true rfl)), ?_⟩
        repeat (refine Ob.mk ?_ ?_; focus ((exact Eq.refl _)))
        trivial
  · skip
    have c1 := h1
    (simp only [Bool.not_eq_true', Bool.not_eq_false', Bool.not_true, Bool.not_false, Bool.and_eq_true, Bool.or_eq_true, Bool.and_eq_false_iff, Bool.or_eq_false_iff, Bool.not_not, beq_true, beq_false, decide_eq_true_eq, decide_eq_false_iff_not] at c1)
    refine ⟨fun h6 => ?_, fun h6 => ?_⟩
    · skip
      have c6 := h6
      (simp only [Bool.not_eq_true', Bool.not_eq_false', Bool.not_true, Bool.not_false, Bool.and_eq_true, Bool.or_eq_true, Bool.and_eq_false_iff, Bool.or_eq_false_iff, Bool.not_not, beq_true, beq_false, decide_eq_true_eq, decide_eq_false_iff_not] at c6)
      repeat (refine Ob.mk ?_ ?_; focus ((exact Eq.refl _)))
      trivial
    · skip
      have c6 := h6
      (simp only [Bool.not_eq_true', Bool.not_eq_false', Bool.not_true, Bool.not_false, Bool.and_eq_true, Bool.or_eq_true, Bool.and_eq_false_iff, Bool.or_eq_false_iff, Bool.not_not, beq_true, beq_false, decide_eq_true_eq, decide_eq_false_iff_not] at c6)
      refine ⟨fun h7 => ?_, fun h7 => ?_⟩
      · skip
        have c7 := h7
        repeat (refine Ob.mk ?_ ?_; (focus (first | (exact Eq.refl _) | assumption | (simp_all; done))))
        trivial
      · skip
        have c7 := h7
        repeat (refine Ob.mk ?_ ?_; (focus (first | assumption | (simp_all; done))))
        trivial
set_option maxRecDepth 100000 in
set_option maxHeartbeats 4000000 in
theorem cf_TurnF {c l n k : KS} (h1 : c.ck = 0) (h2 : l.ck = 0) (h3 : n.ck = 0) (h4 : k.ck = 0) (hl : k.live = true) (hf : k.first = true) : Cf Try.prog 40 [] [stE3 c l n, k.ev] [] (.tup [stE3 k c KS.z, .i 0]) := by
  have q0 := cf_kyCheck (k := c); rw [h1] at q0
  have q1 := cf_kyCheck (k := l); rw [h2] at q1
  have q2 := cf_kyCheck (k := n); rw [h3] at q2
  have q3 := cf_kyCheck (k := k); rw [h4] at q3
  refine Cf.introR tabT {} D0 (by kernel_rfl) tab_ok Try.func40 Try.ntmps40 rfl rfl (D0_ok) (by kernel_rfl) ?_
  refine ⟨Nat, fun j => ⟨[(2, .own 1002 0), (3, .own 1003 0), (4, .own 1004 0), (16, .agg [.b c.live, .s c.send, .s c.take, .i c.mine, .i c.theirs, .i c.born, .i c.cnt, .b c.sn, .i c.la, .u64 c.bi, .b c.first, .b l.live, .s l.send, .s l.take, .i l.mine, .i l.theirs, .i l.born, .i l.cnt, .b l.sn, .i l.la, .u64 l.bi, .b l.first, .b n.live, .s n.send, .s n.take, .i n.mine, .i n.theirs, .i n.born, .i n.cnt, .b n.sn, .i n.la, .u64 n.bi, .b n.first, .b k.live, .s k.send, .s k.take, .i k.mine, .i k.theirs, .i k.born, .i k.cnt, .b k.sn, .i k.la, .u64 k.bi, .b k.first]), (17, .i (j : Int))], [(1002, .box [.b c.live, .s c.send, .s c.take, .i c.mine, .i c.theirs, .i c.born, .i c.cnt, .b c.sn, .i c.la, .u64 c.bi, .b c.first, .b l.live, .s l.send, .s l.take, .i l.mine, .i l.theirs, .i l.born, .i l.cnt, .b l.sn, .i l.la, .u64 l.bi, .b l.first, .b n.live, .s n.send, .s n.take, .i n.mine, .i n.theirs, .i n.born, .i n.cnt, .b n.sn, .i n.la, .u64 n.bi, .b n.first] 56), (1003, .box [.b k.live, .s k.send, .s k.take, .i k.mine, .i k.theirs, .i k.born, .i k.cnt, .b k.sn, .i k.la, .u64 k.bi, .b k.first] 52), (1004, .box [.b false, .s [], .s [], .i 0, .i 0, .i 0, .i 0, .b false, .i 0, .u64 (UInt64.ofNat 0), .b false, .b false, .s [], .s [], .i 0, .i 0, .i 0, .i 0, .b false, .i 0, .u64 (UInt64.ofNat 0), .b false, .b false, .s [], .s [], .i 0, .i 0, .i 0, .i 0, .b false, .i 0, .u64 (UInt64.ofNat 0), .b false] 56)]⟩, fun j => j ≤ 4, fun j => 4 - j, 0, by simp, ?_, fun j hx1 => ?_⟩
  · skip
    repeat (refine Ob.mk ?_ ?_; focus ((exact Eq.refl _)))
    trivial
  refine ⟨fun h1 => ?_, fun h1 => ?_⟩
  · skip
    have c1 := h1
    (simp only [Bool.not_eq_true', Bool.not_eq_false', Bool.not_true, Bool.not_false, Bool.and_eq_true, Bool.or_eq_true, Bool.and_eq_false_iff, Bool.or_eq_false_iff, Bool.not_not, beq_true, beq_false, decide_eq_true_eq, decide_eq_false_iff_not] at c1)
    rcases (by omega : j = 0 ∨ j = 1 ∨ j = 2 ∨ j = 3) with rfl | rfl | rfl | rfl
    · skip
      repeat (refine Ob.mk ?_ ?_; focus (omega))
      refine ⟨_, _, _, _, q0, ?_⟩
      repeat (refine Ob.mk ?_ ?_; focus ((exact Eq.refl _)))
      refine ⟨fun h2 => ?_, fun h2 => ?_⟩
      · skip
        (simp only [Int.reduceToNat, UInt8.reduceOfNat] at h2)
        have c2 := h2
        (simp only [Bool.not_eq_true', Bool.not_eq_false', Bool.not_true, Bool.not_false, Bool.and_eq_true, Bool.or_eq_true, Bool.and_eq_false_iff, Bool.or_eq_false_iff, Bool.not_not, beq_true, beq_false, decide_eq_true_eq, decide_eq_false_iff_not] at c2)
        exact absurd c2 (by decide)
      · skip
        (simp only [Int.reduceToNat, UInt8.reduceOfNat] at h2)
        have c2 := h2
        (simp only [Bool.not_eq_true', Bool.not_eq_false', Bool.not_true, Bool.not_false, Bool.and_eq_true, Bool.or_eq_true, Bool.and_eq_false_iff, Bool.or_eq_false_iff, Bool.not_not, beq_true, beq_false, decide_eq_true_eq, decide_eq_false_iff_not] at c2)
        repeat (refine Ob.mk ?_ ?_; focus (omega))
        refine ⟨0 + 1, (by omega), (by (exact Nat.le_of_ble_eq_true rfl)), ?_⟩
        repeat (refine Ob.mk ?_ ?_; focus ((exact Eq.refl _)))
        trivial
    · skip
      repeat (refine Ob.mk ?_ ?_; focus (omega))
      refine ⟨_, _, _, _, q1, ?_⟩
      repeat (refine Ob.mk ?_ ?_; focus ((exact Eq.refl _)))
      refine ⟨fun h3 => ?_, fun h3 => ?_⟩
      · skip
        (simp only [Int.reduceToNat, UInt8.reduceOfNat] at h3)
        have c3 := h3
        (simp only [Bool.not_eq_true', Bool.not_eq_false', Bool.not_true, Bool.not_false, Bool.and_eq_true, Bool.or_eq_true, Bool.and_eq_false_iff, Bool.or_eq_false_iff, Bool.not_not, beq_true, beq_false, decide_eq_true_eq, decide_eq_false_iff_not] at c3)
        exact absurd c3 (by decide)
      · skip
        (simp only [Int.reduceToNat, UInt8.reduceOfNat] at h3)
        have c3 := h3
        (simp only [Bool.not_eq_true', Bool.not_eq_false', Bool.not_true, Bool.not_false, Bool.and_eq_true, Bool.or_eq_true, Bool.and_eq_false_iff, Bool.or_eq_false_iff, Bool.not_not, beq_true, beq_false, decide_eq_true_eq, decide_eq_false_iff_not] at c3)
        repeat (refine Ob.mk ?_ ?_; focus (omega))
        refine ⟨1 + 1, (by omega), (by (exact Nat.le_of_ble_eq_true rfl)), ?_⟩
        repeat (refine Ob.mk ?_ ?_; focus ((exact Eq.refl _)))
        trivial
    · skip
      repeat (refine Ob.mk ?_ ?_; focus (omega))
      refine ⟨_, _, _, _, q2, ?_⟩
      repeat (refine Ob.mk ?_ ?_; focus ((exact Eq.refl _)))
      refine ⟨fun h4 => ?_, fun h4 => ?_⟩
      · skip
        (simp only [Int.reduceToNat, UInt8.reduceOfNat] at h4)
        have c4 := h4
        (simp only [Bool.not_eq_true', Bool.not_eq_false', Bool.not_true, Bool.not_false, Bool.and_eq_true, Bool.or_eq_true, Bool.and_eq_false_iff, Bool.or_eq_false_iff, Bool.not_not, beq_true, beq_false, decide_eq_true_eq, decide_eq_false_iff_not] at c4)
        exact absurd c4 (by decide)
      · skip
        (simp only [Int.reduceToNat, UInt8.reduceOfNat] at h4)
        have c4 := h4
        (simp only [Bool.not_eq_true', Bool.not_eq_false', Bool.not_true, Bool.not_false, Bool.and_eq_true, Bool.or_eq_true, Bool.and_eq_false_iff, Bool.or_eq_false_iff, Bool.not_not, beq_true, beq_false, decide_eq_true_eq, decide_eq_false_iff_not] at c4)
        repeat (refine Ob.mk ?_ ?_; focus (omega))
        refine ⟨2 + 1, (by omega), (by (exact Nat.le_of_ble_eq_true rfl)), ?_⟩
        repeat (refine Ob.mk ?_ ?_; focus ((exact Eq.refl _)))
        trivial
    · skip
      repeat (refine Ob.mk ?_ ?_; focus (omega))
      refine ⟨_, _, _, _, q3, ?_⟩
      repeat (refine Ob.mk ?_ ?_; focus ((exact Eq.refl _)))
      refine ⟨fun h5 => ?_, fun h5 => ?_⟩
      · skip
        (simp only [Int.reduceToNat, UInt8.reduceOfNat] at h5)
        have c5 := h5
        (simp only [Bool.not_eq_true', Bool.not_eq_false', Bool.not_true, Bool.not_false, Bool.and_eq_true, Bool.or_eq_true, Bool.and_eq_false_iff, Bool.or_eq_false_iff, Bool.not_not, beq_true, beq_false, decide_eq_true_eq, decide_eq_false_iff_not] at c5)
        exact absurd c5 (by decide)
      · skip
        (simp only [Int.reduceToNat, UInt8.reduceOfNat] at h5)
        have c5 := h5
        (simp only [Bool.not_eq_true', Bool.not_eq_false', Bool.not_true, Bool.not_false, Bool.and_eq_true, Bool.or_eq_true, Bool.and_eq_false_iff, Bool.or_eq_false_iff, Bool.not_not, beq_true, beq_false, decide_eq_true_eq, decide_eq_false_iff_not] at c5)
        repeat (refine Ob.mk ?_ ?_; focus (omega))
        refine ⟨3 + 1, (by omega), (by (exact Nat.le_of_ble_eq_true rfl)), ?_⟩
        repeat (refine Ob.mk ?_ ?_; focus ((exact Eq.refl _)))
        trivial
  · skip
    have c1 := h1
    (simp only [Bool.not_eq_true', Bool.not_eq_false', Bool.not_true, Bool.not_false, Bool.and_eq_true, Bool.or_eq_true, Bool.and_eq_false_iff, Bool.or_eq_false_iff, Bool.not_not, beq_true, beq_false, decide_eq_true_eq, decide_eq_false_iff_not] at c1)
    refine ⟨fun h6 => ?_, fun h6 => ?_⟩
    · skip
      have c6 := h6
      (simp only [Bool.not_eq_true', Bool.not_eq_false', Bool.not_true, Bool.not_false, Bool.and_eq_true, Bool.or_eq_true, Bool.and_eq_false_iff, Bool.or_eq_false_iff, Bool.not_not, beq_true, beq_false, decide_eq_true_eq, decide_eq_false_iff_not] at c6)
      repeat (refine Ob.mk ?_ ?_; (focus (first | (exact Eq.refl _) | (simp [SrcE.len]; omega) | (simp_all; done))))
      trivial
    · skip
      have c6 := h6
      (simp only [Bool.not_eq_true', Bool.not_eq_false', Bool.not_true, Bool.not_false, Bool.and_eq_true, Bool.or_eq_true, Bool.and_eq_false_iff, Bool.or_eq_false_iff, Bool.not_not, beq_true, beq_false, decide_eq_true_eq, decide_eq_false_iff_not] at c6)
      refine ⟨fun h7 => ?_, fun h7 => ?_⟩
      · skip
        have c7 := h7
        repeat (refine Ob.mk ?_ ?_; focus ((exact Eq.refl _)))
        trivial
      · skip
        have c7 := h7
        repeat (refine Ob.mk ?_ ?_; (focus (first | (exact Eq.refl _) | assumption | (simp_all; done))))
        trivial
set_option maxRecDepth 100000 in
set_option maxHeartbeats 4000000 in
theorem cf_TurnN {c l n k : KS} (h1 : c.ck = 0) (h2 : l.ck = 0) (h3 : n.ck = 0) (h4 : k.ck = 0) (hl : k.live = true) (hf : k.first = false) : Cf Try.prog 40 [] [stE3 c l n, k.ev] [] (.tup [stE3 c l k, .i 0]) := by
  have q0 := cf_kyCheck (k := c); rw [h1] at q0
  have q1 := cf_kyCheck (k := l); rw [h2] at q1
  have q2 := cf_kyCheck (k := n); rw [h3] at q2
  have q3 := cf_kyCheck (k := k); rw [h4] at q3
  refine Cf.introR tabT {} D0 (by kernel_rfl) tab_ok Try.func40 Try.ntmps40 rfl rfl (D0_ok) (by kernel_rfl) ?_
  refine ⟨Nat, fun j => ⟨[(2, .own 1002 0), (3, .own 1003 0), (4, .own 1004 0), (16, .agg [.b c.live, .s c.send, .s c.take, .i c.mine, .i c.theirs, .i c.born, .i c.cnt, .b c.sn, .i c.la, .u64 c.bi, .b c.first, .b l.live, .s l.send, .s l.take, .i l.mine, .i l.theirs, .i l.born, .i l.cnt, .b l.sn, .i l.la, .u64 l.bi, .b l.first, .b n.live, .s n.send, .s n.take, .i n.mine, .i n.theirs, .i n.born, .i n.cnt, .b n.sn, .i n.la, .u64 n.bi, .b n.first, .b k.live, .s k.send, .s k.take, .i k.mine, .i k.theirs, .i k.born, .i k.cnt, .b k.sn, .i k.la, .u64 k.bi, .b k.first]), (17, .i (j : Int))], [(1002, .box [.b c.live, .s c.send, .s c.take, .i c.mine, .i c.theirs, .i c.born, .i c.cnt, .b c.sn, .i c.la, .u64 c.bi, .b c.first, .b l.live, .s l.send, .s l.take, .i l.mine, .i l.theirs, .i l.born, .i l.cnt, .b l.sn, .i l.la, .u64 l.bi, .b l.first, .b n.live, .s n.send, .s n.take, .i n.mine, .i n.theirs, .i n.born, .i n.cnt, .b n.sn, .i n.la, .u64 n.bi, .b n.first] 56), (1003, .box [.b k.live, .s k.send, .s k.take, .i k.mine, .i k.theirs, .i k.born, .i k.cnt, .b k.sn, .i k.la, .u64 k.bi, .b k.first] 52), (1004, .box [.b false, .s [], .s [], .i 0, .i 0, .i 0, .i 0, .b false, .i 0, .u64 (UInt64.ofNat 0), .b false, .b false, .s [], .s [], .i 0, .i 0, .i 0, .i 0, .b false, .i 0, .u64 (UInt64.ofNat 0), .b false, .b false, .s [], .s [], .i 0, .i 0, .i 0, .i 0, .b false, .i 0, .u64 (UInt64.ofNat 0), .b false] 56)]⟩, fun j => j ≤ 4, fun j => 4 - j, 0, by simp, ?_, fun j hx1 => ?_⟩
  · skip
    repeat (refine Ob.mk ?_ ?_; focus ((exact Eq.refl _)))
    trivial
  refine ⟨fun h1 => ?_, fun h1 => ?_⟩
  · skip
    have c1 := h1
    (simp only [Bool.not_eq_true', Bool.not_eq_false', Bool.not_true, Bool.not_false, Bool.and_eq_true, Bool.or_eq_true, Bool.and_eq_false_iff, Bool.or_eq_false_iff, Bool.not_not, beq_true, beq_false, decide_eq_true_eq, decide_eq_false_iff_not] at c1)
    rcases (by omega : j = 0 ∨ j = 1 ∨ j = 2 ∨ j = 3) with rfl | rfl | rfl | rfl
    · skip
      repeat (refine Ob.mk ?_ ?_; focus (omega))
      refine ⟨_, _, _, _, q0, ?_⟩
      repeat (refine Ob.mk ?_ ?_; focus ((exact Eq.refl _)))
      refine ⟨fun h2 => ?_, fun h2 => ?_⟩
      · skip
        (simp only [Int.reduceToNat, UInt8.reduceOfNat] at h2)
        have c2 := h2
        (simp only [Bool.not_eq_true', Bool.not_eq_false', Bool.not_true, Bool.not_false, Bool.and_eq_true, Bool.or_eq_true, Bool.and_eq_false_iff, Bool.or_eq_false_iff, Bool.not_not, beq_true, beq_false, decide_eq_true_eq, decide_eq_false_iff_not] at c2)
        exact absurd c2 (by decide)
      · skip
        (simp only [Int.reduceToNat, UInt8.reduceOfNat] at h2)
        have c2 := h2
        (simp only [Bool.not_eq_true', Bool.not_eq_false', Bool.not_true, Bool.not_false, Bool.and_eq_true, Bool.or_eq_true, Bool.and_eq_false_iff, Bool.or_eq_false_iff, Bool.not_not, beq_true, beq_false, decide_eq_true_eq, decide_eq_false_iff_not] at c2)
        repeat (refine Ob.mk ?_ ?_; focus (omega))
        refine ⟨0 + 1, (by omega), (by (exact Nat.le_of_ble_eq_true rfl)), ?_⟩
        repeat (refine Ob.mk ?_ ?_; focus ((exact Eq.refl _)))
        trivial
    · skip
      repeat (refine Ob.mk ?_ ?_; focus (omega))
      refine ⟨_, _, _, _, q1, ?_⟩
      repeat (refine Ob.mk ?_ ?_; focus ((exact Eq.refl _)))
      refine ⟨fun h3 => ?_, fun h3 => ?_⟩
      · skip
        (simp only [Int.reduceToNat, UInt8.reduceOfNat] at h3)
        have c3 := h3
        (simp only [Bool.not_eq_true', Bool.not_eq_false', Bool.not_true, Bool.not_false, Bool.and_eq_true, Bool.or_eq_true, Bool.and_eq_false_iff, Bool.or_eq_false_iff, Bool.not_not, beq_true, beq_false, decide_eq_true_eq, decide_eq_false_iff_not] at c3)
        exact absurd c3 (by decide)
      · skip
        (simp only [Int.reduceToNat, UInt8.reduceOfNat] at h3)
        have c3 := h3
        (simp only [Bool.not_eq_true', Bool.not_eq_false', Bool.not_true, Bool.not_false, Bool.and_eq_true, Bool.or_eq_true, Bool.and_eq_false_iff, Bool.or_eq_false_iff, Bool.not_not, beq_true, beq_false, decide_eq_true_eq, decide_eq_false_iff_not] at c3)
        repeat (refine Ob.mk ?_ ?_; focus (omega))
        refine ⟨1 + 1, (by omega), (by (exact Nat.le_of_ble_eq_true rfl)), ?_⟩
        repeat (refine Ob.mk ?_ ?_; focus ((exact Eq.refl _)))
        trivial
    · skip
      repeat (refine Ob.mk ?_ ?_; focus (omega))
      refine ⟨_, _, _, _, q2, ?_⟩
      repeat (refine Ob.mk ?_ ?_; focus ((exact Eq.refl _)))
      refine ⟨fun h4 => ?_, fun h4 => ?_⟩
      · skip
        (simp only [Int.reduceToNat, UInt8.reduceOfNat] at h4)
        have c4 := h4
        (simp only [Bool.not_eq_true', Bool.not_eq_false', Bool.not_true, Bool.not_false, Bool.and_eq_true, Bool.or_eq_true, Bool.and_eq_false_iff, Bool.or_eq_false_iff, Bool.not_not, beq_true, beq_false, decide_eq_true_eq, decide_eq_false_iff_not] at c4)
        exact absurd c4 (by decide)
      · skip
        (simp only [Int.reduceToNat, UInt8.reduceOfNat] at h4)
        have c4 := h4
        (simp only [Bool.not_eq_true', Bool.not_eq_false', Bool.not_true, Bool.not_false, Bool.and_eq_true, Bool.or_eq_true, Bool.and_eq_false_iff, Bool.or_eq_false_iff, Bool.not_not, beq_true, beq_false, decide_eq_true_eq, decide_eq_false_iff_not] at c4)
        repeat (refine Ob.mk ?_ ?_; focus (omega))
        refine ⟨2 + 1, (by omega), (by (exact Nat.le_of_ble_eq_true rfl)), ?_⟩
        repeat (refine Ob.mk ?_ ?_; focus ((exact Eq.refl _)))
        trivial
    · skip
      repeat (refine Ob.mk ?_ ?_; focus (omega))
      refine ⟨_, _, _, _, q3, ?_⟩
      repeat (refine Ob.mk ?_ ?_; focus ((exact Eq.refl _)))
      refine ⟨fun h5 => ?_, fun h5 => ?_⟩
      · skip
        (simp only [Int.reduceToNat, UInt8.reduceOfNat] at h5)
        have c5 := h5
        (simp only [Bool.not_eq_true', Bool.not_eq_false', Bool.not_true, Bool.not_false, Bool.and_eq_true, Bool.or_eq_true, Bool.and_eq_false_iff, Bool.or_eq_false_iff, Bool.not_not, beq_true, beq_false, decide_eq_true_eq, decide_eq_false_iff_not] at c5)
        exact absurd c5 (by decide)
      · skip
        (simp only [Int.reduceToNat, UInt8.reduceOfNat] at h5)
        have c5 := h5
        (simp only [Bool.not_eq_true', Bool.not_eq_false', Bool.not_true, Bool.not_false, Bool.and_eq_true, Bool.or_eq_true, Bool.and_eq_false_iff, Bool.or_eq_false_iff, Bool.not_not, beq_true, beq_false, decide_eq_true_eq, decide_eq_false_iff_not] at c5)
        repeat (refine Ob.mk ?_ ?_; focus (omega))
        refine ⟨3 + 1, (by omega), (by (exact Nat.le_of_ble_eq_true rfl)), ?_⟩
        repeat (refine Ob.mk ?_ ?_; focus ((exact Eq.refl _)))
        trivial
  · skip
    have c1 := h1
    (simp only [Bool.not_eq_true', Bool.not_eq_false', Bool.not_true, Bool.not_false, Bool.and_eq_true, Bool.or_eq_true, Bool.and_eq_false_iff, Bool.or_eq_false_iff, Bool.not_not, beq_true, beq_false, decide_eq_true_eq, decide_eq_false_iff_not] at c1)
    refine ⟨fun h6 => ?_, fun h6 => ?_⟩
    · skip
      have c6 := h6
      (simp only [Bool.not_eq_true', Bool.not_eq_false', Bool.not_true, Bool.not_false, Bool.and_eq_true, Bool.or_eq_true, Bool.and_eq_false_iff, Bool.or_eq_false_iff, Bool.not_not, beq_true, beq_false, decide_eq_true_eq, decide_eq_false_iff_not] at c6)
      repeat (refine Ob.mk ?_ ?_; (focus (first | (simp [SrcE.len]; omega) | (simp_all; done))))
      trivial
    · skip
      have c6 := h6
      (simp only [Bool.not_eq_true', Bool.not_eq_false', Bool.not_true, Bool.not_false, Bool.and_eq_true, Bool.or_eq_true, Bool.and_eq_false_iff, Bool.or_eq_false_iff, Bool.not_not, beq_true, beq_false, decide_eq_true_eq, decide_eq_false_iff_not] at c6)
      refine ⟨fun h7 => ?_, fun h7 => ?_⟩
      · skip
        have c7 := h7
        repeat (refine Ob.mk ?_ ?_; (focus (first | (exact Eq.refl _) | (simp [SrcE.len]; omega) | (simp_all; done))))
        trivial
      · skip
        have c7 := h7
        repeat (refine Ob.mk ?_ ?_; focus ((exact Eq.refl _)))
        trivial
set_option maxRecDepth 100000 in
set_option maxHeartbeats 4000000 in
theorem cf_ConfirmN {c l n : KS} (hl : n.live = false) : Cf Try.prog 41 [] [stE3 c l n] [] (stE3 c l n) := by
  refine Cf.introR tabT {} D0 (by kernel_rfl) tab_ok Try.func41 Try.ntmps41 rfl rfl (D0_ok) (by kernel_rfl) ?_
  refine ⟨fun h1 => ?_, fun h1 => ?_⟩
  · skip
    have c1 := h1
    (simp only [Bool.not_eq_true', Bool.not_eq_false', Bool.not_true, Bool.not_false, Bool.and_eq_true, Bool.or_eq_true, Bool.and_eq_false_iff, Bool.or_eq_false_iff, Bool.not_not, beq_true, beq_false, decide_eq_true_eq, decide_eq_false_iff_not] at c1)
    repeat (refine Ob.mk ?_ ?_; focus ((exact Eq.refl _)))
    trivial
  · skip
    have c1 := h1
    (simp only [Bool.not_eq_true', Bool.not_eq_false', Bool.not_true, Bool.not_false, Bool.and_eq_true, Bool.or_eq_true, Bool.and_eq_false_iff, Bool.or_eq_false_iff, Bool.not_not, beq_true, beq_false, decide_eq_true_eq, decide_eq_false_iff_not] at c1)
    repeat (refine Ob.mk ?_ ?_; (focus (first | (simp [SrcE.len]; omega) | (simp_all; done))))
    trivial
set_option maxRecDepth 100000 in
set_option maxHeartbeats 4000000 in
theorem cf_ConfirmI {c l n : KS} (hl : n.live = true) : Cf Try.prog 41 [] [stE3 c l n] [] (stE3 n c KS.z) := by
  refine Cf.introR tabT {} D0 (by kernel_rfl) tab_ok Try.func41 Try.ntmps41 rfl rfl (D0_ok) (by kernel_rfl) ?_
  refine ⟨fun h1 => ?_, fun h1 => ?_⟩
  · skip
    have c1 := h1
    (simp only [Bool.not_eq_true', Bool.not_eq_false', Bool.not_true, Bool.not_false, Bool.and_eq_true, Bool.or_eq_true, Bool.and_eq_false_iff, Bool.or_eq_false_iff, Bool.not_not, beq_true, beq_false, decide_eq_true_eq, decide_eq_false_iff_not] at c1)
    repeat (refine Ob.mk ?_ ?_; (focus (first | assumption | (simp_all; done))))
    trivial
  · skip
    have c1 := h1
    (simp only [Bool.not_eq_true', Bool.not_eq_false', Bool.not_true, Bool.not_false, Bool.and_eq_true, Bool.or_eq_true, Bool.and_eq_false_iff, Bool.or_eq_false_iff, Bool.not_not, beq_true, beq_false, decide_eq_true_eq, decide_eq_false_iff_not] at c1)
    repeat (refine Ob.mk ?_ ?_; focus ((exact Eq.refl _)))
    trivial
end Go.Proofs.Ytpcagbfnddgjpaa
