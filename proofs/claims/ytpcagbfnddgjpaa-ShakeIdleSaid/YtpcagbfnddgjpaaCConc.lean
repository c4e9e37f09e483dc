/- slices.Concat of two lists of bytes: the contract; the shelf's contract of slices.Grow laid at this translation. -/
import Derived.Test.YtpcagbfnddgjpaaCHex
import Derived.Shelf.Spec.SlicesGrow
namespace Go.Proofs.Ytpcagbfnddgjpaa
open Go.RowKit
set_option linter.unusedVariables false
set_option linter.unusedSimpArgs false

def growRen : Go.Shelf.Ren := ⟨fun | 4 => 74 | n => n, fun | 0 => 0 | 3 => 3 | 4 => 4 | 9 => 9 | 20 => 20 | 22 => 22 | 25 => 5 | n => n, fun | n => n⟩
theorem growLays : Go.Proofs.Lays8.n4 Try.prog growRen := {
  mixed := by kernel_rfl
  f4 := ⟨ "slices.Grow[[]byte,byte]", by kernel_rfl, Try.func74.trans (congrArg some (by kernel_rfl))⟩
  t0 := Try.underlying0
  a0 := Try.isAgg0
  z0 := Try.sizeOf0
  v0 := Try.zeroValue0
  t3 := Try.underlying3
  a3 := Try.isAgg3
  z3 := Try.sizeOf3
  v3 := Try.zeroValue3
  t4 := Try.underlying4
  a4 := Try.isAgg4
  z4 := Try.sizeOf4
  v4 := Try.zeroValue4
  t9 := Try.underlying9
  a9 := Try.isAgg9
  z9 := Try.sizeOf9
  v9 := Try.zeroValue9
  t20 := Try.underlying20
  a20 := Try.isAgg20
  z20 := Try.sizeOf20
  v20 := Try.zeroValue20
  t22 := Try.underlying22
  a22 := Try.isAgg22
  z22 := Try.sizeOf22
  v22 := Try.zeroValue22 }
/-- Room for n bytes, none of them there. -/
theorem grow_nil (n : Nat) (w : World) (h0 : 0 < n) (h1 : n ≤ 1000000) :
    Calls Try.prog 74 #[.slice none 0 0, .int .i64 (n : Int)] w fun e w' => ∃ p, e = .returned p ∧ w'.ownsRow w.heap.size 5 1 p 0 [] ∧ Below w.heap.size w w' := by
  obtain ⟨i0, hi, hz0, hz1, hz2⟩ := info_parts info8
  refine (Any8.slices_Grow_grow growLays i0 (.int .u8 0) hi hz0 (by omega) none 0 0 n [] w (by omega) (by omega) (by rw [hz2]; omega) (by omega) (by simp) (fun _ => rfl) (fun a h => by cases h)).mono ?_
  rintro e w' ⟨rfl, rfl⟩
  refine ⟨_, rfl, ?_, (Below.refl _ _).drew.alloc (Nat.le_refl _) _⟩
  refine ⟨rfl, .inr ⟨w.heap.size, _, _, rfl, Nat.le_refl _, heap_alloc_new w.drew _, Nat.zero_le _, grownCap_le_maxLen _ _ _ _ (by unfold maxLen; omega), ?_, by simp⟩⟩
  have := grownCap_ge w (0 + n) 0 (growRen.t 25)
  simp only [Nat.zero_add] at this ⊢
  simp [size_zeroCells, Value.cells]
  omega
theorem grow_any (n : Nat) (w : World) (h1 : n ≤ 1000000) :
    Calls Try.prog 74 #[.slice none 0 0, .int .i64 (n : Int)] w fun e w' => ∃ p, e = .returned p ∧ w'.ownsRow w.heap.size 5 1 p 0 [] ∧ Below w.heap.size w w' := by
  by_cases h0 : 0 < n
  · exact grow_nil n w h0 h1
  · obtain rfl : n = 0 := by omega
    exact (Any8.slices_Grow_room growLays none 0 0 0 w (by omega) (by omega) (by omega) (by omega)).mono fun e w' ⟨h, hw⟩ => ⟨_, h, by rw [hw]; exact World.ownsRow_nil _ _ _ _, by rw [hw]; exact Below.refl _ _⟩

theorem cf_Grow {n : Nat} (hn : n ≤ 1000000) : Cf Try.prog 74 [] [.nil, .i (n : Int)] [(60, .rb [] 5 0)] (.osl 60 0) :=
  Cf.ofRow (l := []) (by kernel_rfl) fun w Pub φ vs hp hR => by
    obtain ⟨u, v, rfl, h1, h2⟩ := ra2 hR
    have e1 := ra_val h1; have e2 := ra_val h2
    subst e1 e2
    exact grow_any n w hn
set_option maxRecDepth 100000 in
set_option maxHeartbeats 4000000 in
theorem cf_Concat {l m : List UInt8} (hl : l.length ≤ 100000) (hm : m.length ≤ 100000) : Cf Try.prog 38 [] [.sl [.bs l, .bs m] 2] [] (.bs (l ++ m)) := by
  refine Cf.introR tabT {} D0 (by kernel_rfl) tab_ok Try.func38 Try.ntmps38 rfl rfl (D0_ok) (by kernel_rfl) ?_
  refine ⟨Nat, fun j => ⟨[(0, .sl [.bs l, .bs m] 2), (3, .i (((if 0 < j then l.length else 0) + (if 1 < j then m.length else 0) : Nat) : Int)), (9, .sl [.bs l, .bs m] 2), (10, .i 2), (11, .i (j : Int))], []⟩, fun j => j ≤ 2, fun j => 2 - j, 0, by simp, ?_, fun j hx1 => ?_⟩
  · skip
    repeat (refine Ob.mk ?_ ?_; focus ((exact Eq.refl _)))
    trivial
  refine ⟨fun h1 => ?_, fun h1 => ?_⟩
  · skip
    have c1 := h1
    (simp only [Bool.not_eq_true', Bool.not_eq_false', Bool.not_true, Bool.not_false, Bool.and_eq_true, Bool.or_eq_true, Bool.and_eq_false_iff, Bool.or_eq_false_iff, Bool.not_not, beq_true, beq_false, decide_eq_true_eq, decide_eq_false_iff_not] at c1)
    rcases (by omega : j = 0 ∨ j = 1) with rfl | rfl
    · skip
      repeat (refine Ob.mk ?_ ?_; (focus (first | omega | (simp [SrcE.len]; omega))))
      refine ⟨fun h2 => ?_, fun h2 => ?_⟩
      · skip
        have c2 := h2
        (simp only [Bool.not_eq_true', Bool.not_eq_false', Bool.not_true, Bool.not_false, Bool.and_eq_true, Bool.or_eq_true, Bool.and_eq_false_iff, Bool.or_eq_false_iff, Bool.not_not, beq_true, beq_false, decide_eq_true_eq, decide_eq_false_iff_not] at c2)
        exfalso; omega
      · skip
        have c2 := h2
        (simp only [Bool.not_eq_true', Bool.not_eq_false', Bool.not_true, Bool.not_false, Bool.and_eq_true, Bool.or_eq_true, Bool.and_eq_false_iff, Bool.or_eq_false_iff, Bool.not_not, beq_true, beq_false, decide_eq_true_eq, decide_eq_false_iff_not] at c2)
        repeat (refine Ob.mk ?_ ?_; focus (omega))
        refine ⟨0 + 1, (by omega), (by (exact Nat.le_of_ble_eq_true rfl)), ?_⟩
        repeat (refine Ob.mk ?_ ?_; (focus (first | (exact Eq.refl _) | (simp [SrcE.len]; done))))
        trivial
    · skip
      repeat (refine Ob.mk ?_ ?_; (focus (first | omega | (simp [SrcE.len]; omega))))
      refine ⟨fun h3 => ?_, fun h3 => ?_⟩
      · skip
        have c3 := h3
        (simp only [Bool.not_eq_true', Bool.not_eq_false', Bool.not_true, Bool.not_false, Bool.and_eq_true, Bool.or_eq_true, Bool.and_eq_false_iff, Bool.or_eq_false_iff, Bool.not_not, beq_true, beq_false, decide_eq_true_eq, decide_eq_false_iff_not] at c3)
        exfalso; omega
      · skip
        have c3 := h3
        (simp only [Bool.not_eq_true', Bool.not_eq_false', Bool.not_true, Bool.not_false, Bool.and_eq_true, Bool.or_eq_true, Bool.and_eq_false_iff, Bool.or_eq_false_iff, Bool.not_not, beq_true, beq_false, decide_eq_true_eq, decide_eq_false_iff_not] at c3)
        repeat (refine Ob.mk ?_ ?_; focus (omega))
        refine ⟨1 + 1, (by omega), (by (exact Nat.le_of_ble_eq_true rfl)), ?_⟩
        repeat (refine Ob.mk ?_ ?_; focus ((exact Eq.refl _)))
        trivial
  · skip
    have c1 := h1
    (simp only [Bool.not_eq_true', Bool.not_eq_false', Bool.not_true, Bool.not_false, Bool.and_eq_true, Bool.or_eq_true, Bool.and_eq_false_iff, Bool.or_eq_false_iff, Bool.not_not, beq_true, beq_false, decide_eq_true_eq, decide_eq_false_iff_not] at c1)
    obtain rfl : j = 2 := by omega
    have hG := cf_Grow (n := l.length + m.length) (by omega)
    refine ⟨_, _, _, _, hG, ?_⟩
    repeat (refine Ob.mk ?_ ?_; focus ((exact Eq.refl _)))
    refine ⟨Nat, fun i => ⟨[(6, .osl 60 ((if 0 < i then l.length else 0) + (if 1 < i then m.length else 0))), (25, .sl [.bs l, .bs m] 2), (26, .i 2), (27, .i (i : Int))], [(60, .rb ((if 0 < i then l else []) ++ (if 1 < i then m else [])) 5 0)]⟩, fun i => i ≤ 2, fun i => 2 - i, 0, by simp, ?_, fun i hx2 => ?_⟩
    · skip
      repeat (refine Ob.mk ?_ ?_; focus (first | (exact Eq.refl _) | omega))
      trivial
    refine ⟨fun h4 => ?_, fun h4 => ?_⟩
    · skip
      have c4 := h4
      (simp only [Bool.not_eq_true', Bool.not_eq_false', Bool.not_true, Bool.not_false, Bool.and_eq_true, Bool.or_eq_true, Bool.and_eq_false_iff, Bool.or_eq_false_iff, Bool.not_not, beq_true, beq_false, decide_eq_true_eq, decide_eq_false_iff_not] at c4)
      rcases (by omega : i = 0 ∨ i = 1) with rfl | rfl
      · skip
        repeat (refine Ob.mk ?_ ?_; (focus (first | (exact Eq.refl _) | omega | (simp [SrcE.len]; omega))))
        refine ⟨0 + 1, (by omega), (by assumption), ?_⟩
        repeat (refine Ob.mk ?_ ?_; (focus (first | (exact Eq.refl _) | (exact Nat.le_of_ble_eq_true rfl) | (simp [SrcE.len]; done))))
        trivial
      · skip
        repeat (refine Ob.mk ?_ ?_; (focus (first | omega | (simp [SrcE.len]; done) | (simp [SrcE.len]; omega))))
        refine ⟨1 + 1, (by assumption), (by (exact Nat.le_of_ble_eq_true rfl)), ?_⟩
        repeat (refine Ob.mk ?_ ?_; (focus (first | (exact Eq.refl _) | (exact Nat.le_of_ble_eq_true rfl) | (simp [SrcE.len]; done))))
        trivial
    · skip
      have c4 := h4
      (simp only [Bool.not_eq_true', Bool.not_eq_false', Bool.not_true, Bool.not_false, Bool.and_eq_true, Bool.or_eq_true, Bool.and_eq_false_iff, Bool.or_eq_false_iff, Bool.not_not, beq_true, beq_false, decide_eq_true_eq, decide_eq_false_iff_not] at c4)
      obtain rfl : i = 2 := by omega
      repeat (refine Ob.mk ?_ ?_; (focus (first | (exact Eq.refl _) | (simp [SrcE.len]; done))))
      trivial
end Go.Proofs.Ytpcagbfnddgjpaa
