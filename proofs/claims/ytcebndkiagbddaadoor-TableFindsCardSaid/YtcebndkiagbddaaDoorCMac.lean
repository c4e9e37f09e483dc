/- package mac: contracts (what each function computes). -/
import Derived.Test.YtcebndkiagbddaaDoorCHex
import Derived.Test.YtcebndkiagbddaaDoorCSha
import Derived.Test.YtcebndkiagbddaaDoorMacF
namespace Go.Proofs.YtcebndkiagbddaaDoor
open Go.RowKit
set_option linter.unusedVariables false
set_option linter.unusedSimpArgs false

theorem sum_ok {l : List UInt8} (hl : l.length ≤ 1000) : Cf Tryd.prog 74 [] [.bs l] [] (.tup [.bs (shaSum l), .i 0]) := by
  have k := cf_Sum (l := l) (by omega)
  rw [decide_eq_false (by omega : ¬ 1000 < (l.length : Int))] at k
  exact k
set_option maxRecDepth 100000 in
set_option maxHeartbeats 4000000 in
theorem cf_keyed {k : List UInt8} {y : UInt8} : Cf Tryd.prog 75 [] [.bs k, .u8 y] [(60, .rb (keyed k y) 5 0)] (.osl 60 (keyed k y).length) := by
  refine Cf.introR tabT {} D0 (by kernel_rfl) tab_ok Tryd.func75 Tryd.ntmps75 rfl rfl (D0_ok) (by kernel_rfl) ?_
  repeat (refine Ob.mk ?_ ?_; focus (first | (exact Eq.refl _) | omega))
  refine ⟨Nat, fun j => ⟨[(1, .u8 y), (5, .osl 60 64), (12, .i 64), (13, .i (j : Int))], [(60, .rb (kx k y j) 5 0)]⟩, fun j => j ≤ 64, fun j => 64 - j, 0, by simp, ?_, fun j hx1 => ?_⟩
  · skip
    repeat (refine Ob.mk ?_ ?_; (focus (first | (rw [kx0]; exact Eq.refl _) | (exact Eq.refl _) | omega)))
    trivial
  refine ⟨fun h1 => ?_, fun h1 => ?_⟩
  · skip
    have c1 := h1
    (simp only [bsX] at c1)
    have hl := kx_length k y j
    repeat (refine Ob.mk ?_ ?_; focus (omega))
    refine ⟨j + 1, (by omega), (by (simp only [SrcE.len, Nat.zero_add, List.length_append, List.length_cons, List.length_nil]; omega)), ?_⟩
    repeat (refine Ob.mk ?_ ?_; (focus (first | (simp only [Nat.mul_one, Int.toNat_natCast, kxs]; exact Eq.refl _) | (exact Eq.refl _) | omega)))
    trivial
  · skip
    have c1 := h1
    (simp only [bsX] at c1)
    obtain rfl : j = 64 := by omega
    repeat (refine Ob.mk ?_ ?_; (focus (first | (rw [keyed_length]; done) | (rw [keyed_]; done) | omega)))
    trivial
set_option maxRecDepth 100000 in
set_option maxHeartbeats 4000000 in
theorem cf_Tag {k b : List UInt8} (hb : b.length ≤ 100000000) : Cf Tryd.prog 58 [] [.s k, .bs b] [] (.tup [.bs (tagR k b), .i (tagE k b)]) := by
  refine Cf.introR tabT {} D0 (by kernel_rfl) tab_ok Tryd.func58 Tryd.ntmps58 rfl rfl (D0_ok) (by kernel_rfl) ?_
  refine ⟨_, _, _, _, (@cf_hexCheck ?_), ?_⟩
  rotate_left 1
  repeat (refine Ob.mk ?_ ?_; focus ((exact Eq.refl _)))
  refine ⟨fun h1 => ?_, fun h1 => ?_⟩
  · skip
    have c1 := h1
    (simp only [bsX] at c1)
    repeat (refine Ob.mk ?_ ?_; (focus (((simp only [tagR, tagE, h1, Bool.cond_decide, Bool.cond_not, cond_true, cond_false, Bool.not_true, Bool.not_false, Bool.and_true, Bool.true_and, Bool.and_false, Bool.false_and, Bool.or_true, Bool.true_or, Bool.or_false, Bool.false_or]; simp (disch := omega) only [if_pos, if_neg]; done)))))
    trivial
  · skip
    have c1 := h1
    (simp only [bsX] at c1)
    obtain ⟨e1, e2, e3⟩ := key_bytes c1; have l1 := keyed_length (hexB k) 54; have l2 := keyed_length (hexB k) 92
    refine ⟨fun h2 => ?_, fun h2 => ?_⟩
    · skip
      have c2 := h2
      (simp only [bsX] at c2)
      repeat (refine Ob.mk ?_ ?_; (focus (((simp only [tagR, tagE, h1, h2, Bool.cond_decide, Bool.cond_not, cond_true, cond_false, Bool.not_true, Bool.not_false, Bool.and_true, Bool.true_and, Bool.and_false, Bool.false_and, Bool.or_true, Bool.true_or, Bool.or_false, Bool.false_or]; simp (disch := omega) only [if_pos, if_neg]; done)))))
      trivial
    · skip
      have c2 := h2
      (simp only [bsX] at c2)
      have l3 := shaSum_length (keyed (hexB k) 54 ++ b); obtain ⟨t1, t2⟩ := tag_ok c1 (by omega : b.length ≤ 936)
      have s1 := sum_ok (l := keyed (hexB k) 54 ++ b) (by simp; omega); have s2 := sum_ok (l := keyed (hexB k) 92 ++ shaSum (keyed (hexB k) 54 ++ b)) (by simp; omega)
      refine ⟨_, _, _, _, (@cf_hexBytes ?_), ?_⟩
      rotate_left 1
      repeat (refine Ob.mk ?_ ?_; focus ((exact Eq.refl _)))
      refine ⟨_, _, _, _, (@cf_keyed ?_ ?_), ?_⟩
      rotate_left 2
      repeat (refine Ob.mk ?_ ?_; (focus (first | (exact Eq.refl _) | (simp [SrcE.len]; omega))))
      refine ⟨_, _, _, _, s1, ?_⟩
      repeat (refine Ob.mk ?_ ?_; (focus (first | (exact Eq.refl _) | (simp only [SrcE.len, Nat.zero_add, List.length_append, List.length_cons, List.length_nil]; done))))
      refine ⟨_, _, _, _, (@cf_keyed ?_ ?_), ?_⟩
      rotate_left 2
      repeat (refine Ob.mk ?_ ?_; (focus (first | (exact Eq.refl _) | (simp [SrcE.len]; omega))))
      refine ⟨_, _, _, _, s2, ?_⟩
      repeat (refine Ob.mk ?_ ?_; (focus (first | (rw [t2]; exact tagS_ _ _) | (exact t1.symm) | (exact Eq.refl _) | (simp only [SrcE.len, Nat.zero_add, List.length_append, List.length_cons, List.length_nil]; done))))
      trivial
theorem tag_cf {k b : List UInt8} (hk : hexC k = 0) (hb : b.length ≤ 936) : Cf Tryd.prog 58 [] [.s k, .bs b] [] (.tup [.bs (tagS k b), .i 0]) := by
  have h := cf_Tag (k := k) (b := b) (by omega)
  obtain ⟨t1, t2⟩ := tag_ok hk hb
  rw [t1, t2] at h; exact h
set_option maxRecDepth 100000 in
set_option maxHeartbeats 4000000 in
theorem cf_Derive {k l : List UInt8} (hl : l.length ≤ 1000000) : Cf Tryd.prog 38 [] [.s k, .s l] [] (.tup [.s (derR k l), .i (derE k l)]) := by
  have h := cf_Tag (k := k) (b := keyW ++ l) (by simp [keyW]; omega)
  refine Cf.introR tabT {} D0 (by kernel_rfl) tab_ok Tryd.func38 Tryd.ntmps38 rfl rfl (D0_ok) (by kernel_rfl) ?_
  repeat (refine Ob.mk ?_ ?_; (focus (((simp only [SrcE.len, Nat.zero_add, List.length_append, List.length_cons, List.length_nil]; omega)))))
  refine ⟨_, _, _, _, h, ?_⟩
  repeat (refine Ob.mk ?_ ?_; focus ((exact Eq.refl _)))
  refine ⟨fun h1 => ?_, fun h1 => ?_⟩
  · skip
    have c1 := h1
    (simp only [bsX] at c1)
    repeat (refine Ob.mk ?_ ?_; (focus (first | (exact Eq.refl _) | (simp only [derR, derE, h1, Bool.cond_decide, Bool.cond_not, cond_true, cond_false, Bool.not_true, Bool.not_false, Bool.and_true, Bool.true_and, Bool.and_false, Bool.false_and, Bool.or_true, Bool.true_or, Bool.or_false, Bool.false_or]; simp (disch := omega) only [if_pos, if_neg]; done))))
    trivial
  · skip
    have c1 := h1
    (simp only [bsX] at c1)
    have t := tagR_ok c1; have tl := tagS_length k (keyW ++ l); rw [← t.1] at tl
    refine ⟨_, _, _, _, (@cf_hexText ?_ ?_), ?_⟩
    rotate_left 2
    repeat (refine Ob.mk ?_ ?_; (focus (first | (rw [t.1]; unfold derR derS; rw [if_neg (fun h => h c1)]) | (exact Eq.refl _) | (simp_all [derR, derE]; done))))
    trivial
    all_goals (((rw [tl]; decide)))
theorem der_cf {k l : List UInt8} (hk : hexC k = 0) (hl : l.length ≤ 932) : Cf Tryd.prog 38 [] [.s k, .s l] [] (.tup [.s (derS k l), .i 0]) := by
  have h := cf_Derive (k := k) (l := l) (by omega)
  obtain ⟨t1, t2⟩ := der_ok hk hl
  rw [t1, t2] at h; exact h
end Go.Proofs.YtcebndkiagbddaaDoor
