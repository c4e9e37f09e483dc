/- package keys: contracts. -/
import Derived.Test.YtpcagbfnddgjpaaCSeal
import Derived.Test.YtpcagbfnddgjpaaCWin
import Derived.Test.YtpcagbfnddgjpaaKeysF
import Derived.Test.YtpcagbfnddgjpaaPickF
namespace Go.Proofs.Ytpcagbfnddgjpaa
open Go.RowKit
set_option linter.unusedVariables false
set_option linter.unusedSimpArgs false

set_option maxRecDepth 100000 in
set_option maxHeartbeats 4000000 in
theorem cf_kyCheck {k : KS} : Cf Try.prog 76 [] [k.ev] [] (.i k.ck) := by
  refine Cf.introR tabT {} D0 (by kernel_rfl) tab_ok Try.func76 Try.ntmps76 rfl rfl (D0_ok) (by kernel_rfl) ?_
  refine ⟨fun h1 => ?_, fun h1 => ?_⟩
  · skip
    have c1 := h1
    (simp only [Bool.not_eq_true', Bool.not_eq_false', Bool.not_true, Bool.not_false, Bool.and_eq_true, Bool.or_eq_true, Bool.and_eq_false_iff, Bool.or_eq_false_iff, Bool.not_not, beq_true, beq_false, decide_eq_true_eq, decide_eq_false_iff_not] at c1)
    refine ⟨fun h2 => ?_, fun h2 => ?_⟩
    · skip
      (simp only [Int.reduceToNat, UInt8.reduceOfNat] at h2)
      have c2 := h2
      (simp only [Bool.not_eq_true', Bool.not_eq_false', Bool.not_true, Bool.not_false, Bool.and_eq_true, Bool.or_eq_true, Bool.and_eq_false_iff, Bool.or_eq_false_iff, Bool.not_not, beq_true, beq_false, decide_eq_true_eq, decide_eq_false_iff_not] at c2)
      repeat (refine Ob.mk ?_ ?_; focus ((exact KS.ck_14 c1 c2)))
      trivial
    · skip
      (simp only [Int.reduceToNat, UInt8.reduceOfNat] at h2)
      have c2 := h2
      (simp only [Bool.not_eq_true', Bool.not_eq_false', Bool.not_true, Bool.not_false, Bool.and_eq_true, Bool.or_eq_true, Bool.and_eq_false_iff, Bool.or_eq_false_iff, Bool.not_not, beq_true, beq_false, decide_eq_true_eq, decide_eq_false_iff_not] at c2)
      repeat (refine Ob.mk ?_ ?_; focus ((exact KS.ck_0 c1 c2)))
      trivial
  · skip
    have c1 := h1
    (simp only [Bool.not_eq_true', Bool.not_eq_false', Bool.not_true, Bool.not_false, Bool.and_eq_true, Bool.or_eq_true, Bool.and_eq_false_iff, Bool.or_eq_false_iff, Bool.not_not, beq_true, beq_false, decide_eq_true_eq, decide_eq_false_iff_not] at c1)
    refine ⟨Nat, fun j => ⟨[(1, .own 1001 0), (16, .agg [.s k.send, .s k.take]), (17, .i (j : Int))], [(1001, .box [.b k.live, .s k.send, .s k.take, .i k.mine, .i k.theirs, .i k.born, .i k.cnt, .b k.sn, .i k.la, .u64 k.bi, .b k.first] 52)]⟩, fun j => j ≤ 2 ∧ (0 < j → hexC k.send = 0) ∧ (1 < j → hexC k.take = 0), fun j => 2 - j, 0, by simp, ?_, fun j hx1 => ?_⟩
    · skip
      repeat (refine Ob.mk ?_ ?_; focus ((exact Eq.refl _)))
      trivial
    refine ⟨fun h3 => ?_, fun h3 => ?_⟩
    · skip
      have c3 := h3
      (simp only [Bool.not_eq_true', Bool.not_eq_false', Bool.not_true, Bool.not_false, Bool.and_eq_true, Bool.or_eq_true, Bool.and_eq_false_iff, Bool.or_eq_false_iff, Bool.not_not, beq_true, beq_false, decide_eq_true_eq, decide_eq_false_iff_not] at c3)
      rcases (by omega : j = 0 ∨ j = 1) with rfl | rfl
      · skip
        repeat (refine Ob.mk ?_ ?_; focus (omega))
        refine ⟨_, _, _, _, (@cf_hexCheck ?_), ?_⟩
        rotate_left 1
        repeat (refine Ob.mk ?_ ?_; focus ((exact Eq.refl _)))
        refine ⟨fun h4 => ?_, fun h4 => ?_⟩
        · skip
          have c4 := h4
          (simp only [Bool.not_eq_true', Bool.not_eq_false', Bool.not_true, Bool.not_false, Bool.and_eq_true, Bool.or_eq_true, Bool.and_eq_false_iff, Bool.or_eq_false_iff, Bool.not_not, beq_true, beq_false, decide_eq_true_eq, decide_eq_false_iff_not] at c4)
          repeat (refine Ob.mk ?_ ?_; focus ((exact KS.ck_s c1 c4)))
          trivial
        · skip
          have c4 := h4
          (simp only [Bool.not_eq_true', Bool.not_eq_false', Bool.not_true, Bool.not_false, Bool.and_eq_true, Bool.or_eq_true, Bool.and_eq_false_iff, Bool.or_eq_false_iff, Bool.not_not, beq_true, beq_false, decide_eq_true_eq, decide_eq_false_iff_not] at c4)
          repeat (refine Ob.mk ?_ ?_; focus (omega))
          refine ⟨0 + 1, (by omega), (by (exact Nat.le_of_ble_eq_true rfl)), ?_⟩
          repeat (refine Ob.mk ?_ ?_; focus ((exact Eq.refl _)))
          trivial
      · skip
        repeat (refine Ob.mk ?_ ?_; focus (omega))
        refine ⟨_, _, _, _, (@cf_hexCheck ?_), ?_⟩
        rotate_left 1
        repeat (refine Ob.mk ?_ ?_; focus ((exact Eq.refl _)))
        refine ⟨fun h5 => ?_, fun h5 => ?_⟩
        · skip
          have c5 := h5
          (simp only [Bool.not_eq_true', Bool.not_eq_false', Bool.not_true, Bool.not_false, Bool.and_eq_true, Bool.or_eq_true, Bool.and_eq_false_iff, Bool.or_eq_false_iff, Bool.not_not, beq_true, beq_false, decide_eq_true_eq, decide_eq_false_iff_not] at c5)
          repeat (refine Ob.mk ?_ ?_; focus ((exact KS.ck_t c1 (hx1.2.1 (by decide)) c5)))
          trivial
        · skip
          have c5 := h5
          (simp only [Bool.not_eq_true', Bool.not_eq_false', Bool.not_true, Bool.not_false, Bool.and_eq_true, Bool.or_eq_true, Bool.and_eq_false_iff, Bool.or_eq_false_iff, Bool.not_not, beq_true, beq_false, decide_eq_true_eq, decide_eq_false_iff_not] at c5)
          repeat (refine Ob.mk ?_ ?_; focus (omega))
          refine ⟨1 + 1, (by omega), (by (exact Nat.le_of_ble_eq_true rfl)), ?_⟩
          repeat (refine Ob.mk ?_ ?_; focus ((exact Eq.refl _)))
          trivial
    · skip
      have c3 := h3
      (simp only [Bool.not_eq_true', Bool.not_eq_false', Bool.not_true, Bool.not_false, Bool.and_eq_true, Bool.or_eq_true, Bool.and_eq_false_iff, Bool.or_eq_false_iff, Bool.not_not, beq_true, beq_false, decide_eq_true_eq, decide_eq_false_iff_not] at c3)
      repeat (refine Ob.mk ?_ ?_; focus (first | (exact fun hg => beq_f hg) | (exact fun hg => hg)))
      refine ⟨fun h6 => ?_, fun h6 => ?_⟩
      · skip
        have c6 := h6
        (simp only [Bool.not_eq_true', Bool.not_eq_false', Bool.not_true, Bool.not_false, Bool.and_eq_true, Bool.or_eq_true, Bool.and_eq_false_iff, Bool.or_eq_false_iff, Bool.not_not, beq_true, beq_false, decide_eq_true_eq, decide_eq_false_iff_not] at c6)
        repeat (refine Ob.mk ?_ ?_; focus ((exact KS.ck_r c1 (hx1.2.1 (by omega)) (hx1.2.2 (by omega)) c6)))
        trivial
      · skip
        have c6 := h6
        (simp only [Bool.not_eq_true', Bool.not_eq_false', Bool.not_true, Bool.not_false, Bool.and_eq_true, Bool.or_eq_true, Bool.and_eq_false_iff, Bool.or_eq_false_iff, Bool.not_not, beq_true, beq_false, decide_eq_true_eq, decide_eq_false_iff_not] at c6)
        refine ⟨_, _, _, _, (@cf_wnCheck ?_ ?_ ?_), ?_⟩
        rotate_left 3
        repeat (refine Ob.mk ?_ ?_; focus (first | (exact KS.ck_w c1 (hx1.2.1 (by omega)) (hx1.2.2 (by omega)) c6) | (exact Eq.refl _)))
        trivial
set_option maxRecDepth 100000 in
set_option maxHeartbeats 4000000 in
theorem cf_kyFresh {k : KS} {now : Int} (hb : 0 ≤ k.born) (hb2 : k.born ≤ 1099511627776) (hn : IntIn now) : Cf Try.prog 44 [] [k.ev, .i now] [] (.b (k.fresh now)) := by
  refine Cf.introR tabT {} D0 (by kernel_rfl) tab_ok Try.func44 Try.ntmps44 rfl rfl (D0_ok) (by kernel_rfl) ?_
  refine ⟨_, _, _, _, (@cf_kyCheck ?_), ?_⟩
  rotate_left 1
  repeat (refine Ob.mk ?_ ?_; (focus (first | (exact Eq.refl _) | (exact fun hg => beq_t hg) | (exact fun hg => hg) | (intro hg; ((simp at hg; omega))))))
  trivial
set_option maxRecDepth 100000 in
set_option maxHeartbeats 4000000 in
theorem cf_kyOld {k : KS} {now : Int} (hb : 0 ≤ k.born) (hb2 : k.born ≤ 1099511627776) (hn : IntIn now) : Cf Try.prog 45 [] [k.ev, .i now] [] (.b (!(k.fresh now) || decide (120 ≤ now - k.born))) := by
  refine Cf.introR tabT {} D0 (by kernel_rfl) tab_ok Try.func45 Try.ntmps45 rfl rfl (D0_ok) (by kernel_rfl) ?_
  refine ⟨_, _, _, _, (@cf_kyFresh ?_ ?_ ?_ ?_ ?_), ?_⟩
  rotate_left 5
  repeat (refine Ob.mk ?_ ?_; (focus (first | (intro hg; have := KS.fresh_le hg; omega) | (exact Eq.refl _) | (exact fun hg => beq_f hg))))
  trivial
  all_goals (assumption)
set_option maxRecDepth 100000 in
set_option maxHeartbeats 4000000 in
theorem cf_kySealO {k : KS} {now : Int} {b : List UInt8} (h : k.slE now b = 0) (hn : IntIn now) (hl : b.length ≤ 1000000) : Cf Try.prog 42 [] [k.ev, .i now, .bs b] [] (.tup [({ k with cnt := k.cnt + 1 } : KS).ev, .bs (sealR k.send k.cnt b), .i 0]) := by
  obtain ⟨e1, e2, e3⟩ := KS.slE_ok h; have hb := KS.ck_born e1
  refine Cf.introR tabT {} D0 (by kernel_rfl) tab_ok Try.func42 Try.ntmps42 rfl rfl (D0_ok) (by kernel_rfl) ?_
  refine ⟨_, _, _, _, (@cf_kyCheck ?_), ?_⟩
  rotate_left 1
  repeat (refine Ob.mk ?_ ?_; focus ((exact Eq.refl _)))
  refine ⟨fun h1 => ?_, fun h1 => ?_⟩
  · skip
    have c1 := h1
    (simp only [Bool.not_eq_true', Bool.not_eq_false', Bool.not_true, Bool.not_false, Bool.and_eq_true, Bool.or_eq_true, Bool.and_eq_false_iff, Bool.or_eq_false_iff, Bool.not_not, beq_true, beq_false, decide_eq_true_eq, decide_eq_false_iff_not] at c1)
    repeat (refine Ob.mk ?_ ?_; focus (first | assumption | omega))
    trivial
  · skip
    have c1 := h1
    (simp only [Bool.not_eq_true', Bool.not_eq_false', Bool.not_true, Bool.not_false, Bool.and_eq_true, Bool.or_eq_true, Bool.and_eq_false_iff, Bool.or_eq_false_iff, Bool.not_not, beq_true, beq_false, decide_eq_true_eq, decide_eq_false_iff_not] at c1)
    refine ⟨_, _, _, _, (@cf_kyFresh ?_ ?_ ?_ ?_ ?_), ?_⟩
    rotate_left 5
    repeat (refine Ob.mk ?_ ?_; focus ((exact Eq.refl _)))
    refine ⟨fun h2 => ?_, fun h2 => ?_⟩
    · skip
      have c2 := h2
      (simp only [Bool.not_eq_true', Bool.not_eq_false', Bool.not_true, Bool.not_false, Bool.and_eq_true, Bool.or_eq_true, Bool.and_eq_false_iff, Bool.or_eq_false_iff, Bool.not_not, beq_true, beq_false, decide_eq_true_eq, decide_eq_false_iff_not] at c2)
      repeat (refine Ob.mk ?_ ?_; (focus (((simp_all; done)))))
      trivial
    · skip
      have c2 := h2
      (simp only [Bool.not_eq_true', Bool.not_eq_false', Bool.not_true, Bool.not_false, Bool.and_eq_true, Bool.or_eq_true, Bool.and_eq_false_iff, Bool.or_eq_false_iff, Bool.not_not, beq_true, beq_false, decide_eq_true_eq, decide_eq_false_iff_not] at c2)
      refine ⟨_, _, _, _, (@cf_Seal ?_ ?_ ?_ ?_), ?_⟩
      rotate_left 4
      repeat (refine Ob.mk ?_ ?_; focus ((exact Eq.refl _)))
      refine ⟨fun h3 => ?_, fun h3 => ?_⟩
      · skip
        have c3 := h3
        (simp only [Bool.not_eq_true', Bool.not_eq_false', Bool.not_true, Bool.not_false, Bool.and_eq_true, Bool.or_eq_true, Bool.and_eq_false_iff, Bool.or_eq_false_iff, Bool.not_not, beq_true, beq_false, decide_eq_true_eq, decide_eq_false_iff_not] at c3)
        repeat (refine Ob.mk ?_ ?_; focus (first | assumption | omega))
        trivial
      · skip
        have c3 := h3
        (simp only [Bool.not_eq_true', Bool.not_eq_false', Bool.not_true, Bool.not_false, Bool.and_eq_true, Bool.or_eq_true, Bool.and_eq_false_iff, Bool.or_eq_false_iff, Bool.not_not, beq_true, beq_false, decide_eq_true_eq, decide_eq_false_iff_not] at c3)
        repeat (refine Ob.mk ?_ ?_; focus (first | (exact Eq.refl _) | omega))
        trivial
      all_goals (assumption)
    all_goals (first | assumption | omega)
set_option maxRecDepth 100000 in
set_option maxHeartbeats 4000000 in
theorem cf_kySealE {k : KS} {now : Int} {b : List UInt8} (h : ¬ k.slE now b = 0) (hn : IntIn now) (hl : b.length ≤ 1000000) : Cf Try.prog 42 [] [k.ev, .i now, .bs b] [] (.tup [kz, .bs [], .i (k.slE now b)]) := by
  refine Cf.introR tabT {} D0 (by kernel_rfl) tab_ok Try.func42 Try.ntmps42 rfl rfl (D0_ok) (by kernel_rfl) ?_
  refine ⟨_, _, _, _, (@cf_kyCheck ?_), ?_⟩
  rotate_left 1
  repeat (refine Ob.mk ?_ ?_; focus ((exact Eq.refl _)))
  refine ⟨fun h1 => ?_, fun h1 => ?_⟩
  · skip
    have c1 := h1
    (simp only [Bool.not_eq_true', Bool.not_eq_false', Bool.not_true, Bool.not_false, Bool.and_eq_true, Bool.or_eq_true, Bool.and_eq_false_iff, Bool.or_eq_false_iff, Bool.not_not, beq_true, beq_false, decide_eq_true_eq, decide_eq_false_iff_not] at c1)
    repeat (refine Ob.mk ?_ ?_; focus (first | (exact KS.slE_1 c1) | (exact Eq.refl _)))
    trivial
  · skip
    have c1 := h1
    (simp only [Bool.not_eq_true', Bool.not_eq_false', Bool.not_true, Bool.not_false, Bool.and_eq_true, Bool.or_eq_true, Bool.and_eq_false_iff, Bool.or_eq_false_iff, Bool.not_not, beq_true, beq_false, decide_eq_true_eq, decide_eq_false_iff_not] at c1)
    have hb := KS.ck_born c1
    refine ⟨_, _, _, _, (@cf_kyFresh ?_ ?_ ?_ ?_ ?_), ?_⟩
    rotate_left 5
    repeat (refine Ob.mk ?_ ?_; focus ((exact Eq.refl _)))
    refine ⟨fun h2 => ?_, fun h2 => ?_⟩
    · skip
      have c2 := h2
      (simp only [Bool.not_eq_true', Bool.not_eq_false', Bool.not_true, Bool.not_false, Bool.and_eq_true, Bool.or_eq_true, Bool.and_eq_false_iff, Bool.or_eq_false_iff, Bool.not_not, beq_true, beq_false, decide_eq_true_eq, decide_eq_false_iff_not] at c2)
      repeat (refine Ob.mk ?_ ?_; focus (first | (exact KS.slE_2 c1 c2) | (exact Eq.refl _)))
      trivial
    · skip
      have c2 := h2
      (simp only [Bool.not_eq_true', Bool.not_eq_false', Bool.not_true, Bool.not_false, Bool.and_eq_true, Bool.or_eq_true, Bool.and_eq_false_iff, Bool.or_eq_false_iff, Bool.not_not, beq_true, beq_false, decide_eq_true_eq, decide_eq_false_iff_not] at c2)
      refine ⟨_, _, _, _, (@cf_Seal ?_ ?_ ?_ ?_), ?_⟩
      rotate_left 4
      repeat (refine Ob.mk ?_ ?_; focus ((exact Eq.refl _)))
      refine ⟨fun h3 => ?_, fun h3 => ?_⟩
      · skip
        have c3 := h3
        (simp only [Bool.not_eq_true', Bool.not_eq_false', Bool.not_true, Bool.not_false, Bool.and_eq_true, Bool.or_eq_true, Bool.and_eq_false_iff, Bool.or_eq_false_iff, Bool.not_not, beq_true, beq_false, decide_eq_true_eq, decide_eq_false_iff_not] at c3)
        repeat (refine Ob.mk ?_ ?_; focus (first | (exact KS.slE_3 c1 c2) | (exact Eq.refl _)))
        trivial
      · skip
        have c3 := h3
        (simp only [Bool.not_eq_true', Bool.not_eq_false', Bool.not_true, Bool.not_false, Bool.and_eq_true, Bool.or_eq_true, Bool.and_eq_false_iff, Bool.or_eq_false_iff, Bool.not_not, beq_true, beq_false, decide_eq_true_eq, decide_eq_false_iff_not] at c3)
        exact absurd ((KS.slE_3 c1 c2).symm.trans c3) h
      all_goals (assumption)
    all_goals (first | assumption | omega)
set_option maxRecDepth 100000 in
set_option maxHeartbeats 4000000 in
theorem cf_kyOpenO {k : KS} {now c : Int} {b : List UInt8} (h : k.opE now c b = 0) (hn : IntIn now) (hl : b.length ≤ 1000000) : Cf Try.prog 43 [] [k.ev, .i now, .i c, .bs b] [] (.tup [({ k with sn := wnTkS k.sn k.la k.bi c, la := wnTkL k.sn k.la k.bi c, bi := wnTkB k.sn k.la k.bi c } : KS).ev, .bs (openR k.take c b), .i 0]) := by
  obtain ⟨e1, e2, e3, e4⟩ := KS.opE_ok h; have hb := KS.ck_born e1; unfold KS.late at e2
  refine Cf.introR tabT {} D0 (by kernel_rfl) tab_ok Try.func43 Try.ntmps43 rfl rfl (D0_ok) (by kernel_rfl) ?_
  refine ⟨_, _, _, _, (@cf_kyCheck ?_), ?_⟩
  rotate_left 1
  repeat (refine Ob.mk ?_ ?_; focus ((exact Eq.refl _)))
  refine ⟨fun h1 => ?_, fun h1 => ?_⟩
  · skip
    have c1 := h1
    (simp only [Bool.not_eq_true', Bool.not_eq_false', Bool.not_true, Bool.not_false, Bool.and_eq_true, Bool.or_eq_true, Bool.and_eq_false_iff, Bool.or_eq_false_iff, Bool.not_not, beq_true, beq_false, decide_eq_true_eq, decide_eq_false_iff_not] at c1)
    repeat (refine Ob.mk ?_ ?_; focus (first | assumption | omega))
    trivial
  · skip
    have c1 := h1
    (simp only [Bool.not_eq_true', Bool.not_eq_false', Bool.not_true, Bool.not_false, Bool.and_eq_true, Bool.or_eq_true, Bool.and_eq_false_iff, Bool.or_eq_false_iff, Bool.not_not, beq_true, beq_false, decide_eq_true_eq, decide_eq_false_iff_not] at c1)
    repeat (refine Ob.mk ?_ ?_; focus (first | omega | (exact fun hg => beq_f hg) | (exact fun hg => hg)))
    refine ⟨fun h2 => ?_, fun h2 => ?_⟩
    · skip
      have c2 := h2
      (simp only [Bool.not_eq_true', Bool.not_eq_false', Bool.not_true, Bool.not_false, Bool.and_eq_true, Bool.or_eq_true, Bool.and_eq_false_iff, Bool.or_eq_false_iff, Bool.not_not, beq_true, beq_false, decide_eq_true_eq, decide_eq_false_iff_not] at c2)
      repeat (refine Ob.mk ?_ ?_; (focus (((simp_all; done)))))
      trivial
    · skip
      have c2 := h2
      (simp only [Bool.not_eq_true', Bool.not_eq_false', Bool.not_true, Bool.not_false, Bool.and_eq_true, Bool.or_eq_true, Bool.and_eq_false_iff, Bool.or_eq_false_iff, Bool.not_not, beq_true, beq_false, decide_eq_true_eq, decide_eq_false_iff_not] at c2)
      refine ⟨_, _, _, _, (@cf_Open ?_ ?_ ?_ ?_), ?_⟩
      rotate_left 4
      repeat (refine Ob.mk ?_ ?_; focus ((exact Eq.refl _)))
      refine ⟨fun h3 => ?_, fun h3 => ?_⟩
      · skip
        have c3 := h3
        (simp only [Bool.not_eq_true', Bool.not_eq_false', Bool.not_true, Bool.not_false, Bool.and_eq_true, Bool.or_eq_true, Bool.and_eq_false_iff, Bool.or_eq_false_iff, Bool.not_not, beq_true, beq_false, decide_eq_true_eq, decide_eq_false_iff_not] at c3)
        repeat (refine Ob.mk ?_ ?_; focus (first | assumption | omega))
        trivial
      · skip
        have c3 := h3
        (simp only [Bool.not_eq_true', Bool.not_eq_false', Bool.not_true, Bool.not_false, Bool.and_eq_true, Bool.or_eq_true, Bool.and_eq_false_iff, Bool.or_eq_false_iff, Bool.not_not, beq_true, beq_false, decide_eq_true_eq, decide_eq_false_iff_not] at c3)
        refine ⟨_, _, _, _, (@cf_wnTake ?_ ?_ ?_ ?_), ?_⟩
        rotate_left 4
        repeat (refine Ob.mk ?_ ?_; focus ((exact Eq.refl _)))
        refine ⟨fun h4 => ?_, fun h4 => ?_⟩
        · skip
          have c4 := h4
          (simp only [Bool.not_eq_true', Bool.not_eq_false', Bool.not_true, Bool.not_false, Bool.and_eq_true, Bool.or_eq_true, Bool.and_eq_false_iff, Bool.or_eq_false_iff, Bool.not_not, beq_true, beq_false, decide_eq_true_eq, decide_eq_false_iff_not] at c4)
          repeat (refine Ob.mk ?_ ?_; focus (first | assumption | omega))
          trivial
        · skip
          have c4 := h4
          (simp only [Bool.not_eq_true', Bool.not_eq_false', Bool.not_true, Bool.not_false, Bool.and_eq_true, Bool.or_eq_true, Bool.and_eq_false_iff, Bool.or_eq_false_iff, Bool.not_not, beq_true, beq_false, decide_eq_true_eq, decide_eq_false_iff_not] at c4)
          repeat (refine Ob.mk ?_ ?_; focus ((exact Eq.refl _)))
          trivial
      all_goals (assumption)
set_option maxRecDepth 100000 in
set_option maxHeartbeats 4000000 in
theorem cf_kyOpenE {k : KS} {now c : Int} {b : List UInt8} (h : ¬ k.opE now c b = 0) (hn : IntIn now) (hl : b.length ≤ 1000000) : Cf Try.prog 43 [] [k.ev, .i now, .i c, .bs b] [] (.tup [kz, .bs [], .i (k.opE now c b)]) := by
  refine Cf.introR tabT {} D0 (by kernel_rfl) tab_ok Try.func43 Try.ntmps43 rfl rfl (D0_ok) (by kernel_rfl) ?_
  refine ⟨_, _, _, _, (@cf_kyCheck ?_), ?_⟩
  rotate_left 1
  repeat (refine Ob.mk ?_ ?_; focus ((exact Eq.refl _)))
  refine ⟨fun h1 => ?_, fun h1 => ?_⟩
  · skip
    have c1 := h1
    (simp only [Bool.not_eq_true', Bool.not_eq_false', Bool.not_true, Bool.not_false, Bool.and_eq_true, Bool.or_eq_true, Bool.and_eq_false_iff, Bool.or_eq_false_iff, Bool.not_not, beq_true, beq_false, decide_eq_true_eq, decide_eq_false_iff_not] at c1)
    repeat (refine Ob.mk ?_ ?_; focus (first | (exact KS.opE_1 c1) | (exact Eq.refl _)))
    trivial
  · skip
    have c1 := h1
    (simp only [Bool.not_eq_true', Bool.not_eq_false', Bool.not_true, Bool.not_false, Bool.and_eq_true, Bool.or_eq_true, Bool.and_eq_false_iff, Bool.or_eq_false_iff, Bool.not_not, beq_true, beq_false, decide_eq_true_eq, decide_eq_false_iff_not] at c1)
    have hb := KS.ck_born c1
    repeat (refine Ob.mk ?_ ?_; (focus (first | (exact fun hg => beq_f hg) | (exact fun hg => hg) | (intro hg; ((simp at hg; omega))))))
    refine ⟨fun h2 => ?_, fun h2 => ?_⟩
    · skip
      have c2 := h2
      (simp only [Bool.not_eq_true', Bool.not_eq_false', Bool.not_true, Bool.not_false, Bool.and_eq_true, Bool.or_eq_true, Bool.and_eq_false_iff, Bool.or_eq_false_iff, Bool.not_not, beq_true, beq_false, decide_eq_true_eq, decide_eq_false_iff_not] at c2)
      repeat (refine Ob.mk ?_ ?_; focus (first | (exact KS.opE_2 c1 c2) | (exact Eq.refl _)))
      trivial
    · skip
      have c2 := h2
      (simp only [Bool.not_eq_true', Bool.not_eq_false', Bool.not_true, Bool.not_false, Bool.and_eq_true, Bool.or_eq_true, Bool.and_eq_false_iff, Bool.or_eq_false_iff, Bool.not_not, beq_true, beq_false, decide_eq_true_eq, decide_eq_false_iff_not] at c2)
      refine ⟨_, _, _, _, (@cf_Open ?_ ?_ ?_ ?_), ?_⟩
      rotate_left 4
      repeat (refine Ob.mk ?_ ?_; focus ((exact Eq.refl _)))
      refine ⟨fun h3 => ?_, fun h3 => ?_⟩
      · skip
        have c3 := h3
        (simp only [Bool.not_eq_true', Bool.not_eq_false', Bool.not_true, Bool.not_false, Bool.and_eq_true, Bool.or_eq_true, Bool.and_eq_false_iff, Bool.or_eq_false_iff, Bool.not_not, beq_true, beq_false, decide_eq_true_eq, decide_eq_false_iff_not] at c3)
        repeat (refine Ob.mk ?_ ?_; focus (first | (exact KS.opE_3 c1 (KS.late_not c2) c3) | (exact Eq.refl _)))
        trivial
      · skip
        have c3 := h3
        (simp only [Bool.not_eq_true', Bool.not_eq_false', Bool.not_true, Bool.not_false, Bool.and_eq_true, Bool.or_eq_true, Bool.and_eq_false_iff, Bool.or_eq_false_iff, Bool.not_not, beq_true, beq_false, decide_eq_true_eq, decide_eq_false_iff_not] at c3)
        refine ⟨_, _, _, _, (@cf_wnTake ?_ ?_ ?_ ?_), ?_⟩
        rotate_left 4
        repeat (refine Ob.mk ?_ ?_; focus ((exact Eq.refl _)))
        refine ⟨fun h4 => ?_, fun h4 => ?_⟩
        · skip
          have c4 := h4
          (simp only [Bool.not_eq_true', Bool.not_eq_false', Bool.not_true, Bool.not_false, Bool.and_eq_true, Bool.or_eq_true, Bool.and_eq_false_iff, Bool.or_eq_false_iff, Bool.not_not, beq_true, beq_false, decide_eq_true_eq, decide_eq_false_iff_not] at c4)
          repeat (refine Ob.mk ?_ ?_; focus (first | (exact KS.opE_4 c1 (KS.late_not c2) c3) | (exact Eq.refl _)))
          trivial
        · skip
          have c4 := h4
          (simp only [Bool.not_eq_true', Bool.not_eq_false', Bool.not_true, Bool.not_false, Bool.and_eq_true, Bool.or_eq_true, Bool.and_eq_false_iff, Bool.or_eq_false_iff, Bool.not_not, beq_true, beq_false, decide_eq_true_eq, decide_eq_false_iff_not] at c4)
          exact absurd ((KS.opE_4 c1 (KS.late_not c2) c3).symm.trans c4) h
      all_goals (assumption)
set_option maxRecDepth 100000 in
set_option maxHeartbeats 4000000 in
theorem cf_kyMake {s h a : List UInt8} {fs : Bool} {mine theirs now : Int} (hs : hexC s = 0) (lh : h.length = 16) (la : a.length = 16) (h1 : 1 ≤ mine ∧ mine ≤ 4294967295) (h2 : 1 ≤ theirs ∧ theirs ≤ 4294967295) (h3 : 0 ≤ now ∧ now ≤ 1099511627776) : Cf Try.prog 75 [] [.s s, .s h, .s a, .b fs, .i mine, .i theirs, .i now] [] (.tup [(makeK s h a fs mine theirs now).ev, .i 0]) := by
  have hD1 := der_cf (k := s) (l := thereW ++ h ++ a) hs (by simp [thereW]; omega)
  have hD2 := der_cf (k := s) (l := backW ++ h ++ a) hs (by simp [backW]; omega)
  have hC := cf_kyCheck (k := makeK s h a fs mine theirs now)
  rw [makeK_ck h1 h2 h3] at hC
  refine Cf.introR tabT {} D0 (by kernel_rfl) tab_ok Try.func75 Try.ntmps75 rfl rfl (D0_ok) (by kernel_rfl) ?_
  refine ⟨_, _, _, _, (@cf_hexCheck ?_), ?_⟩
  rotate_left 1
  repeat (refine Ob.mk ?_ ?_; focus ((exact Eq.refl _)))
  refine ⟨fun h1 => ?_, fun h1 => ?_⟩
  · skip
    have c1 := h1
    (simp only [Bool.not_eq_true', Bool.not_eq_false', Bool.not_true, Bool.not_false, Bool.and_eq_true, Bool.or_eq_true, Bool.and_eq_false_iff, Bool.or_eq_false_iff, Bool.not_not, beq_true, beq_false, decide_eq_true_eq, decide_eq_false_iff_not] at c1)
    repeat (refine Ob.mk ?_ ?_; focus (first | (exact Eq.refl _) | assumption | omega))
    trivial
  · skip
    have c1 := h1
    (simp only [Bool.not_eq_true', Bool.not_eq_false', Bool.not_true, Bool.not_false, Bool.and_eq_true, Bool.or_eq_true, Bool.and_eq_false_iff, Bool.or_eq_false_iff, Bool.not_not, beq_true, beq_false, decide_eq_true_eq, decide_eq_false_iff_not] at c1)
    repeat (refine Ob.mk ?_ ?_; focus (first | (exact fun hg => beq_f hg) | (exact fun hg => hg)))
    refine ⟨fun h2 => ?_, fun h2 => ?_⟩
    · skip
      have c2 := h2
      (simp only [Bool.not_eq_true', Bool.not_eq_false', Bool.not_true, Bool.not_false, Bool.and_eq_true, Bool.or_eq_true, Bool.and_eq_false_iff, Bool.or_eq_false_iff, Bool.not_not, beq_true, beq_false, decide_eq_true_eq, decide_eq_false_iff_not] at c2)
      repeat (refine Ob.mk ?_ ?_; focus (first | (exact Eq.refl _) | omega))
      trivial
    · skip
      have c2 := h2
      (simp only [Bool.not_eq_true', Bool.not_eq_false', Bool.not_true, Bool.not_false, Bool.and_eq_true, Bool.or_eq_true, Bool.and_eq_false_iff, Bool.or_eq_false_iff, Bool.not_not, beq_true, beq_false, decide_eq_true_eq, decide_eq_false_iff_not] at c2)
      repeat (refine Ob.mk ?_ ?_; (focus (((simp only [SrcE.len, Nat.zero_add, List.length_append, List.length_cons, List.length_nil]; omega)))))
      refine ⟨_, _, _, _, hD1, ?_⟩
      repeat (refine Ob.mk ?_ ?_; (focus (first | (exact Eq.refl _) | (simp only [SrcE.len, Nat.zero_add, List.length_append, List.length_cons, List.length_nil]; omega))))
      refine ⟨_, _, _, _, hD2, ?_⟩
      repeat (refine Ob.mk ?_ ?_; focus ((exact Eq.refl _)))
      refine ⟨fun h3 => ?_, fun h3 => ?_⟩
      · skip
        have c3 := h3
        have q := c3; subst q
        refine ⟨_, _, _, _, hC, ?_⟩
        repeat (refine Ob.mk ?_ ?_; focus ((exact Eq.refl _)))
        refine ⟨fun h4 => ?_, fun h4 => ?_⟩
        · skip
          (simp only [Int.reduceToNat, UInt8.reduceOfNat] at h4)
          have c4 := h4
          (simp only [Bool.not_eq_true', Bool.not_eq_false', Bool.not_true, Bool.not_false, Bool.and_eq_true, Bool.or_eq_true, Bool.and_eq_false_iff, Bool.or_eq_false_iff, Bool.not_not, beq_true, beq_false, decide_eq_true_eq, decide_eq_false_iff_not] at c4)
          repeat (refine Ob.mk ?_ ?_; (focus (first | (exact Eq.refl _) | assumption | (simp_all; done))))
          trivial
        · skip
          (simp only [Int.reduceToNat, UInt8.reduceOfNat] at h4)
          have c4 := h4
          (simp only [Bool.not_eq_true', Bool.not_eq_false', Bool.not_true, Bool.not_false, Bool.and_eq_true, Bool.or_eq_true, Bool.and_eq_false_iff, Bool.or_eq_false_iff, Bool.not_not, beq_true, beq_false, decide_eq_true_eq, decide_eq_false_iff_not] at c4)
          repeat (refine Ob.mk ?_ ?_; focus ((exact Eq.refl _)))
          trivial
      · skip
        have c3 := h3
        have q := c3; subst q
        refine ⟨_, _, _, _, hC, ?_⟩
        repeat (refine Ob.mk ?_ ?_; focus ((exact Eq.refl _)))
        refine ⟨fun h5 => ?_, fun h5 => ?_⟩
        · skip
          (simp only [Int.reduceToNat, UInt8.reduceOfNat] at h5)
          have c5 := h5
          (simp only [Bool.not_eq_true', Bool.not_eq_false', Bool.not_true, Bool.not_false, Bool.and_eq_true, Bool.or_eq_true, Bool.and_eq_false_iff, Bool.or_eq_false_iff, Bool.not_not, beq_true, beq_false, decide_eq_true_eq, decide_eq_false_iff_not] at c5)
          repeat (refine Ob.mk ?_ ?_; (focus (first | (exact Eq.refl _) | assumption | (simp_all; done))))
          trivial
        · skip
          (simp only [Int.reduceToNat, UInt8.reduceOfNat] at h5)
          have c5 := h5
          (simp only [Bool.not_eq_true', Bool.not_eq_false', Bool.not_true, Bool.not_false, Bool.and_eq_true, Bool.or_eq_true, Bool.and_eq_false_iff, Bool.or_eq_false_iff, Bool.not_not, beq_true, beq_false, decide_eq_true_eq, decide_eq_false_iff_not] at c5)
          repeat (refine Ob.mk ?_ ?_; focus ((exact Eq.refl _)))
          trivial
end Go.Proofs.Ytpcagbfnddgjpaa
