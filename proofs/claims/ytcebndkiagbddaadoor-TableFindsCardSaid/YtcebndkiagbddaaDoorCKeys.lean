/- package keys: contracts. -/
import Derived.Test.YtcebndkiagbddaaDoorCSeal
import Derived.Test.YtcebndkiagbddaaDoorCWin
import Derived.Test.YtcebndkiagbddaaDoorKeysF
import Derived.Test.YtcebndkiagbddaaDoorPickF
namespace Go.Proofs.YtcebndkiagbddaaDoor
open Go.RowKit
set_option linter.unusedVariables false
set_option linter.unusedSimpArgs false

set_option maxRecDepth 100000 in
set_option maxHeartbeats 4000000 in
theorem cf_kyCheck {k : KS} : Cf Tryd.prog 39 [] [k.ev] [] (.i k.ck) := by
  refine Cf.introR tabT {} D0 (by kernel_rfl) tab_ok Tryd.func39 Tryd.ntmps39 rfl rfl (D0_ok) (by kernel_rfl) ?_
  refine ⟨fun h1 => ?_, fun h1 => ?_⟩
  · skip
    have c1 := h1
    (simp only [bsX] at c1)
    refine ⟨fun h2 => ?_, fun h2 => ?_⟩
    · skip
      (simp only [Int.reduceToNat, UInt8.reduceOfNat] at h2)
      have c2 := h2
      (simp only [bsX] at c2)
      repeat (refine Ob.mk ?_ ?_; focus ((exact KS.ck_14 c1 c2)))
      trivial
    · skip
      (simp only [Int.reduceToNat, UInt8.reduceOfNat] at h2)
      have c2 := h2
      (simp only [bsX] at c2)
      repeat (refine Ob.mk ?_ ?_; focus ((exact KS.ck_0 c1 c2)))
      trivial
  · skip
    have c1 := h1
    (simp only [bsX] at c1)
    refine ⟨Nat, fun j => ⟨[(1, .own 1001 0), (16, .agg [.s k.send, .s k.take]), (17, .i (j : Int))], [(1001, .box [.b k.live, .s k.send, .s k.take, .i k.mine, .i k.theirs, .i k.born, .i k.cnt, .b k.sn, .i k.la, .u64 k.bi, .b k.first] 26)]⟩, fun j => j ≤ 2 ∧ (0 < j → hexC k.send = 0) ∧ (1 < j → hexC k.take = 0), fun j => 2 - j, 0, by simp, ?_, fun j hx1 => ?_⟩
    · skip
      repeat (refine Ob.mk ?_ ?_; focus ((exact Eq.refl _)))
      trivial
    refine ⟨fun h3 => ?_, fun h3 => ?_⟩
    · skip
      have c3 := h3
      (simp only [bsX] at c3)
      rcases (by omega : j = 0 ∨ j = 1) with rfl | rfl
      · skip
        repeat (refine Ob.mk ?_ ?_; focus (omega))
        refine ⟨_, _, _, _, (@cf_hexCheck ?_), ?_⟩
        rotate_left 1
        repeat (refine Ob.mk ?_ ?_; focus ((exact Eq.refl _)))
        refine ⟨fun h4 => ?_, fun h4 => ?_⟩
        · skip
          have c4 := h4
          (simp only [bsX] at c4)
          repeat (refine Ob.mk ?_ ?_; focus ((exact KS.ck_s c1 c4)))
          trivial
        · skip
          have c4 := h4
          (simp only [bsX] at c4)
          repeat (refine Ob.mk ?_ ?_; focus (omega))
          refine ⟨0 + 1, (by omega), (by (exact Nat.le_of_ble_eq_true rfl)), ?_⟩
          repeat (refine Ob.mk ?_ ?_; focus ((exact Eq.refl _)))
          trivial
      · skip
        repeat (refine Ob.mk ?_ ?_; focus (omega))
        refine ⟨_, _, _, _, (@cf_hexCheck ?_), ?_⟩
        rotate_left 1
        repeat (refine Ob.mk ?_ ?_; focus ((exact Eq.refl _)))
        refine ⟨fun h5 => ?_, fun h5 => ?_⟩
        · skip
          have c5 := h5
          (simp only [bsX] at c5)
          repeat (refine Ob.mk ?_ ?_; focus ((exact KS.ck_t c1 (hx1.2.1 (by decide)) c5)))
          trivial
        · skip
          have c5 := h5
          (simp only [bsX] at c5)
          repeat (refine Ob.mk ?_ ?_; focus (omega))
          refine ⟨1 + 1, (by omega), (by (exact Nat.le_of_ble_eq_true rfl)), ?_⟩
          repeat (refine Ob.mk ?_ ?_; focus ((exact Eq.refl _)))
          trivial
    · skip
      have c3 := h3
      (simp only [bsX] at c3)
      repeat (refine Ob.mk ?_ ?_; focus (first | (exact fun hg => beq_f hg) | (exact fun hg => hg)))
      refine ⟨fun h6 => ?_, fun h6 => ?_⟩
      · skip
        have c6 := h6
        (simp only [bsX] at c6)
        repeat (refine Ob.mk ?_ ?_; focus ((exact KS.ck_r c1 (hx1.2.1 (by omega)) (hx1.2.2 (by omega)) c6)))
        trivial
      · skip
        have c6 := h6
        (simp only [bsX] at c6)
        refine ⟨_, _, _, _, (@cf_wnCheck ?_ ?_ ?_), ?_⟩
        rotate_left 3
        repeat (refine Ob.mk ?_ ?_; focus (first | (exact KS.ck_w c1 (hx1.2.1 (by omega)) (hx1.2.2 (by omega)) c6) | (exact Eq.refl _)))
        trivial
set_option maxRecDepth 100000 in
set_option maxHeartbeats 4000000 in
theorem cf_kyMake {s h a : List UInt8} {fs : Bool} {mine theirs now : Int} (hs : hexC s = 0) (lh : h.length = 16) (la : a.length = 16) (h1 : 1 ≤ mine ∧ mine ≤ 4294967295) (h2 : 1 ≤ theirs ∧ theirs ≤ 4294967295) (h3 : 0 ≤ now ∧ now ≤ 1099511627776) : Cf Tryd.prog 17 [] [.s s, .s h, .s a, .b fs, .i mine, .i theirs, .i now] [] (.tup [(makeK s h a fs mine theirs now).ev, .i 0]) := by
  have hD1 := der_cf (k := s) (l := thereW ++ h ++ a) hs (by simp [thereW]; omega)
  have hD2 := der_cf (k := s) (l := backW ++ h ++ a) hs (by simp [backW]; omega)
  have hC := cf_kyCheck (k := makeK s h a fs mine theirs now)
  rw [makeK_ck h1 h2 h3] at hC
  refine Cf.introR tabT {} D0 (by kernel_rfl) tab_ok Tryd.func17 Tryd.ntmps17 rfl rfl (D0_ok) (by kernel_rfl) ?_
  refine ⟨_, _, _, _, (@cf_hexCheck ?_), ?_⟩
  rotate_left 1
  repeat (refine Ob.mk ?_ ?_; focus ((exact Eq.refl _)))
  refine ⟨fun h1 => ?_, fun h1 => ?_⟩
  · skip
    have c1 := h1
    (simp only [bsX] at c1)
    repeat (refine Ob.mk ?_ ?_; focus (first | (exact Eq.refl _) | assumption | omega))
    trivial
  · skip
    have c1 := h1
    (simp only [bsX] at c1)
    repeat (refine Ob.mk ?_ ?_; focus (first | (exact fun hg => beq_f hg) | (exact fun hg => hg)))
    refine ⟨fun h2 => ?_, fun h2 => ?_⟩
    · skip
      have c2 := h2
      (simp only [bsX] at c2)
      repeat (refine Ob.mk ?_ ?_; focus (first | (exact Eq.refl _) | omega))
      trivial
    · skip
      have c2 := h2
      (simp only [bsX] at c2)
      repeat (refine Ob.mk ?_ ?_; (focus (((simp only [SrcE.len, Nat.zero_add, List.length_append, List.length_cons, List.length_nil]; omega)))))
      refine ⟨_, _, _, _, hD1, ?_⟩
      repeat (refine Ob.mk ?_ ?_; (focus (first | (exact Eq.refl _) | (simp only [SrcE.len, Nat.zero_add, List.length_append, List.length_cons, List.length_nil]; omega))))
      refine ⟨_, _, _, _, hD2, ?_⟩
      repeat (refine Ob.mk ?_ ?_; focus ((exact Eq.refl _)))
      refine ⟨fun h3 => ?_, fun h3 => ?_⟩
      · skip
        have c3 := h3
        have q := c3; subst q
        refine ⟨_, _, _, _, hC, ?_⟩
        repeat (refine Ob.mk ?_ ?_; focus ((exact Eq.refl _)))
        refine ⟨fun h4 => ?_, fun h4 => ?_⟩
        · skip
          (simp only [Int.reduceToNat, UInt8.reduceOfNat] at h4)
          have c4 := h4
          (simp only [bsX] at c4)
          repeat (refine Ob.mk ?_ ?_; (focus (first | (exact Eq.refl _) | assumption | (simp_all; done))))
          trivial
        · skip
          (simp only [Int.reduceToNat, UInt8.reduceOfNat] at h4)
          have c4 := h4
          (simp only [bsX] at c4)
          repeat (refine Ob.mk ?_ ?_; focus ((exact Eq.refl _)))
          trivial
      · skip
        have c3 := h3
        have q := c3; subst q
        refine ⟨_, _, _, _, hC, ?_⟩
        repeat (refine Ob.mk ?_ ?_; focus ((exact Eq.refl _)))
        refine ⟨fun h5 => ?_, fun h5 => ?_⟩
        · skip
          (simp only [Int.reduceToNat, UInt8.reduceOfNat] at h5)
          have c5 := h5
          (simp only [bsX] at c5)
          repeat (refine Ob.mk ?_ ?_; (focus (first | (exact Eq.refl _) | assumption | (simp_all; done))))
          trivial
        · skip
          (simp only [Int.reduceToNat, UInt8.reduceOfNat] at h5)
          have c5 := h5
          (simp only [bsX] at c5)
          repeat (refine Ob.mk ?_ ?_; focus ((exact Eq.refl _)))
          trivial
end Go.Proofs.YtcebndkiagbddaaDoor
