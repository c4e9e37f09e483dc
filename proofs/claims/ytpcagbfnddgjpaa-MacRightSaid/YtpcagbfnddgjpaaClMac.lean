/- MacRight, MacKeys: the walks of the statements' functions. -/
import Derived.Test.YtpcagbfnddgjpaaCMac
import Derived.Test.YtpcagbfnddgjpaaCKey
namespace Go.Proofs.Ytpcagbfnddgjpaa
open Go.RowKit
set_option linter.unusedVariables false
set_option linter.unusedSimpArgs false

theorem short_ne {T : List UInt8} (h : T.length = 32) : ¬ T.take 16 = T.take 15 := fun e => by
  have := congrArg List.length e
  rw [List.length_take, List.length_take] at this; omega
theorem turned_ne {T : List UInt8} (h : T.length = 32) (a : Int) (y : UInt8) : ¬ T.take 16 = trn (T.take 16) a y := fun e => trn_ne (by rw [List.length_take]; omega) a y e.symm
set_option maxRecDepth 100000 in
set_option maxHeartbeats 4000000 in
theorem cf_MacRight {n at_ : Int} {l : List UInt8} {y : UInt8} (hn : IntIn n) (hat : IntIn at_) : Cf Try.prog 3 [] [.i n, .bs l, .i at_, .u8 y] [] (.b true) := by
  have hm : (l.take (min (l.length : Int) 900).toNat).length ≤ 936 := by rw [List.length_take]; omega
  have hk := keyS_ok n
  have hT := tagS_length (keyS n) (l.take (min (l.length : Int) 900).toNat)
  have hY := tag_cf hk hm
  have e1 := short_ne hT
  have e2 := turned_ne hT at_ y
  have hU := cf_Turned (l := (tagS (keyS n) (l.take (min (l.length : Int) 900).toNat)).take 16) (y := y) (by rw [List.length_take]; omega) hat.1 hat.2
  have r1 := right_cf (t := (tagS (keyS n) (l.take (min (l.length : Int) 900).toNat)).take 16) hk hm
  have r2 := right_cf (t := trn ((tagS (keyS n) (l.take (min (l.length : Int) 900).toNat)).take 16) at_ y) hk hm
  have r3 := right_cf (t := (tagS (keyS n) (l.take (min (l.length : Int) 900).toNat)).take 15) hk hm
  have hK := cf_Key hn
  refine Cf.introR tabT {} (DR _ _ _ tabT {}) (by kernel_rfl) tab_ok Try.func3 Try.ntmps3 rfl rfl (DR_ok tab_ok (by kernel_rfl)) (by kernel_rfl) ?_
  repeat (refine Ob.mk ?_ ?_; focus (omega))
  refine ⟨_, _, _, _, hK, ?_⟩
  repeat (refine Ob.mk ?_ ?_; focus ((exact Eq.refl _)))
  refine ⟨_, _, _, _, hY, ?_⟩
  repeat (refine Ob.mk ?_ ?_; (focus (first | (exact Eq.refl _) | (intro _; exact Eq.refl _))))
  refine ⟨fun h1 => ?_, fun h1 => ?_⟩
  · skip
    (simp only [Int.reduceToNat, UInt8.reduceOfNat] at h1)
    have c1 := h1
    (simp only [Bool.not_eq_true', Bool.not_eq_false', Bool.not_true, Bool.not_false, Bool.and_eq_true, Bool.or_eq_true, Bool.and_eq_false_iff, Bool.or_eq_false_iff, Bool.not_not, beq_true, beq_false, decide_eq_true_eq, decide_eq_false_iff_not] at c1)
    repeat (refine Ob.mk ?_ ?_; (focus (((simp_all; done)))))
    trivial
  · skip
    (simp only [Int.reduceToNat, UInt8.reduceOfNat] at h1)
    have c1 := h1
    (simp only [Bool.not_eq_true', Bool.not_eq_false', Bool.not_true, Bool.not_false, Bool.and_eq_true, Bool.or_eq_true, Bool.and_eq_false_iff, Bool.or_eq_false_iff, Bool.not_not, beq_true, beq_false, decide_eq_true_eq, decide_eq_false_iff_not] at c1)
    refine ⟨[0, 1, 0, 0, 8, 31, 63, 127, 127, 255, 1023], by kernel_rfl, ?_⟩
    refine ⟨_, _, _, _, hK, ?_⟩
    repeat (refine Ob.mk ?_ ?_; focus (first | (exact Eq.refl _) | omega))
    refine ⟨_, _, _, _, r1, ?_⟩
    repeat (refine Ob.mk ?_ ?_; focus ((exact Eq.refl _)))
    refine ⟨[0, 1, 0, 0, 8, 0, 0, 123, 255, 511, 1023, 1023, 2047, 8191], by kernel_rfl, ?_⟩
    refine ⟨_, _, _, _, hK, ?_⟩
    repeat (refine Ob.mk ?_ ?_; focus (first | (exact Eq.refl _) | omega))
    refine ⟨_, _, _, _, hU, ?_⟩
    repeat (refine Ob.mk ?_ ?_; focus ((exact Eq.refl _)))
    refine ⟨_, _, _, _, r2, ?_⟩
    repeat (refine Ob.mk ?_ ?_; focus ((exact Eq.refl _)))
    refine ⟨[0, 1, 0, 0, 8, 31, 63, 127, 127, 255, 1023], by kernel_rfl, ?_⟩
    refine ⟨_, _, _, _, hK, ?_⟩
    repeat (refine Ob.mk ?_ ?_; focus (first | (exact Eq.refl _) | omega))
    refine ⟨_, _, _, _, r3, ?_⟩
    repeat (refine Ob.mk ?_ ?_; (focus (first | (exact Eq.refl _) | (intro _; exact Eq.refl _) | (exact fun hg => beq_t hg) | (exact fun hg => hg) | (simp [e1, e2]; done))))
    trivial
set_option maxRecDepth 100000 in
set_option maxHeartbeats 4000000 in
theorem cf_MacKeys {n : Int} {s : List UInt8} (hn : IntIn n) : Cf Try.prog 4 [] [.i n, .s s] [] (.b true) := by
  have hm : (s.take (min (s.length : Int) 100).toNat).length ≤ 932 := by rw [List.length_take]; omega
  have hk := keyS_ok n
  have hK := cf_Key hn
  have hK0 := cf_Key (n := 0) ⟨by decide, by decide⟩
  have hD := der_cf hk hm
  have hD0 := der_cf (k := keyS 0) (l := [97]) (keyS_ok 0) (by decide)
  have hT := tag_cf (k := keyS n) (b := keyW ++ s.take (min (s.length : Int) 100).toNat) hk (by simp only [keyW, List.length_append, List.length_cons, List.length_nil]; omega)
  have l0 := derS_length (keyS 0) [97]
  have l1 := tagS_length (keyS n) (keyW ++ s.take (min (s.length : Int) 100).toNat)
  have e1 := derS_key (keyS n) (s.take (min (s.length : Int) 100).toNat)
  have e2 : derS (keyS n) (s.take (min (s.length : Int) 100).toNat) = hexText (tagS (keyS n) (keyW ++ s.take (min (s.length : Int) 100).toNat)) := by unfold derS; rfl
  refine Cf.introR tabT {} D0 (by kernel_rfl) tab_ok Try.func4 Try.ntmps4 rfl rfl (D0_ok) (by kernel_rfl) ?_
  refine ⟨_, _, _, _, hK0, ?_⟩
  repeat (refine Ob.mk ?_ ?_; focus ((exact Eq.refl _)))
  refine ⟨_, _, _, _, hD0, ?_⟩
  repeat (refine Ob.mk ?_ ?_; (focus (first | (exact Eq.refl _) | (intro _; exact Eq.refl _))))
  refine ⟨fun h1 => ?_, fun h1 => ?_⟩
  · skip
    (simp only [Int.reduceToNat, UInt8.reduceOfNat] at h1)
    have c1 := h1
    (simp only [Bool.not_eq_true', Bool.not_eq_false', Bool.not_true, Bool.not_false, Bool.and_eq_true, Bool.or_eq_true, Bool.and_eq_false_iff, Bool.or_eq_false_iff, Bool.not_not, beq_true, beq_false, decide_eq_true_eq, decide_eq_false_iff_not] at c1)
    repeat (refine Ob.mk ?_ ?_; (focus (((simp_all; done)))))
    trivial
  · skip
    (simp only [Int.reduceToNat, UInt8.reduceOfNat] at h1)
    have c1 := h1
    (simp only [Bool.not_eq_true', Bool.not_eq_false', Bool.not_true, Bool.not_false, Bool.and_eq_true, Bool.or_eq_true, Bool.and_eq_false_iff, Bool.or_eq_false_iff, Bool.not_not, beq_true, beq_false, decide_eq_true_eq, decide_eq_false_iff_not] at c1)
    repeat (refine Ob.mk ?_ ?_; focus (omega))
    refine ⟨_, _, _, _, hK, ?_⟩
    repeat (refine Ob.mk ?_ ?_; focus ((exact Eq.refl _)))
    refine ⟨_, _, _, _, hD, ?_⟩
    repeat (refine Ob.mk ?_ ?_; focus ((exact Eq.refl _)))
    refine ⟨_, _, _, _, hK, ?_⟩
    repeat (refine Ob.mk ?_ ?_; focus ((exact Eq.refl _)))
    refine ⟨_, _, _, _, hD, ?_⟩
    repeat (refine Ob.mk ?_ ?_; focus ((exact Eq.refl _)))
    refine ⟨_, _, _, _, hK, ?_⟩
    repeat (refine Ob.mk ?_ ?_; (focus (first | (exact Eq.refl _) | (simp only [SrcE.len, Nat.zero_add, List.length_append, List.length_cons, List.length_nil]; omega))))
    refine ⟨_, _, _, _, hT, ?_⟩
    repeat (refine Ob.mk ?_ ?_; (focus (first | (exact Eq.refl _) | (intro _; exact Eq.refl _))))
    refine gx2 (@cf_hexCheck ?_) (fun hk => ⟨fun _ => hk, ?_⟩)
    rotate_left 1
    repeat (refine Ob.mk ?_ ?_; (focus (first | (intro _; exact Eq.refl _) | (exact fun hg => beq_t hg) | (exact fun hg => hg))))
    refine gx2 (@cf_hexText ?_ ?_) (fun hk => ⟨fun _ => hk, ?_⟩)
    rotate_left 2
    repeat (refine Ob.mk ?_ ?_; (focus (first | (intro _; exact Eq.refl _) | (exact fun hg => beq_t hg) | (exact fun hg => hg) | (simp [e1, ← e2]; done))))
    trivial
    all_goals (((rw [l1]; decide)))
end Go.Proofs.Ytpcagbfnddgjpaa
