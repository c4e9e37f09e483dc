/- package pair: the secret. -/
import Derived.Test.YtpcagbfnddgjpaaCPair
namespace Go.Proofs.Ytpcagbfnddgjpaa
open Go.RowKit
set_option linter.unusedVariables false
set_option linter.unusedSimpArgs false

set_option maxRecDepth 100000 in
set_option maxHeartbeats 4000000 in
theorem cf_hexBytesO {l v : List UInt8} (hv : unhex l = some v) (hl : l.length ≤ 2000) : Cf Try.prog 63 [] [.s l] [(60, .rb v 5 0)] (.tup [.osl 60 v.length, .i 0]) := by
  have hev := unhex_len _ _ hv
  refine Cf.introR tabT {} (DR _ _ _ tabT {}) (by kernel_rfl) tab_ok Try.func63 Try.ntmps63 rfl rfl (DR_ok tab_ok (by kernel_rfl)) (by kernel_rfl) ?_
  refine ⟨fun h1 => ?_, fun h1 => ?_⟩
  · skip
    have c1 := h1
    (simp only [Bool.not_eq_true', Bool.not_eq_false', Bool.not_true, Bool.not_false, Bool.and_eq_true, Bool.or_eq_true, Bool.and_eq_false_iff, Bool.or_eq_false_iff, Bool.not_not, beq_true, beq_false, decide_eq_true_eq, decide_eq_false_iff_not] at c1)
    exact absurd c1 (by omega)
  · skip
    have c1 := h1
    (simp only [Bool.not_eq_true', Bool.not_eq_false', Bool.not_true, Bool.not_false, Bool.and_eq_true, Bool.or_eq_true, Bool.and_eq_false_iff, Bool.or_eq_false_iff, Bool.not_not, beq_true, beq_false, decide_eq_true_eq, decide_eq_false_iff_not] at c1)
    repeat (refine Ob.mk ?_ ?_; focus (omega))
    refine ⟨fun h2 => ?_, fun h2 => ?_⟩
    · skip
      have c2 := h2
      (simp only [Bool.not_eq_true', Bool.not_eq_false', Bool.not_true, Bool.not_false, Bool.and_eq_true, Bool.or_eq_true, Bool.and_eq_false_iff, Bool.or_eq_false_iff, Bool.not_not, beq_true, beq_false, decide_eq_true_eq, decide_eq_false_iff_not] at c2)
      exact absurd c2 (by omega)
    · skip
      have c2 := h2
      (simp only [Bool.not_eq_true', Bool.not_eq_false', Bool.not_true, Bool.not_false, Bool.and_eq_true, Bool.or_eq_true, Bool.and_eq_false_iff, Bool.or_eq_false_iff, Bool.not_not, beq_true, beq_false, decide_eq_true_eq, decide_eq_false_iff_not] at c2)
      repeat (refine Ob.mk ?_ ?_; focus (omega))
      refine ⟨List UInt8, fun u => ⟨[(0, .s l), (4, .osl 60 u.length), (5, .i (2 * (u.length : Int)))], [(60, .rb u 5 0)]⟩, fun u => unhex (l.take (2 * u.length)) = some u ∧ 2 * u.length ≤ l.length, fun u => l.length - 2 * u.length, [], ⟨rfl, Nat.zero_le _⟩, ?_, fun u hx1 => ?_⟩
      · skip
        repeat (refine Ob.mk ?_ ?_; focus (first | (exact Eq.refl _) | omega))
        trivial
      refine ⟨fun h3 => ?_, fun h3 => ?_⟩
      · skip
        have c3 := h3
        (simp only [Bool.not_eq_true', Bool.not_eq_false', Bool.not_true, Bool.not_false, Bool.and_eq_true, Bool.or_eq_true, Bool.and_eq_false_iff, Bool.or_eq_false_iff, Bool.not_not, beq_true, beq_false, decide_eq_true_eq, decide_eq_false_iff_not] at c3)
        obtain ⟨hu, hle⟩ := hx1; have hlt : 2 * u.length + 1 < l.length := by omega
        have ha := unhex_at hu hlt
        have f1 : (2 * (u.length : Int)).toNat = 2 * u.length := by omega
        have f2 : (2 * (u.length : Int) + 1).toNat = 2 * u.length + 1 := by omega
        refine ⟨[0, 0, 3, 7, 0, 0, 32, 112, 255, 511, 1023], by kernel_rfl, ?_⟩
        repeat (refine Ob.mk ?_ ?_; focus (omega))
        refine ⟨_, _, _, _, (@cf_digit ?_), ?_⟩
        rotate_left 1
        repeat (refine Ob.mk ?_ ?_; focus (first | (exact Eq.refl _) | omega))
        refine ⟨_, _, _, _, (@cf_digit ?_), ?_⟩
        rotate_left 1
        repeat (refine Ob.mk ?_ ?_; focus (first | (exact Eq.refl _) | (exact fun hg => beq_f hg) | (exact fun hg => hg)))
        refine ⟨fun h4 => ?_, fun h4 => ?_⟩
        · skip
          have c4 := h4
          (simp only [Bool.not_eq_true', Bool.not_eq_false', Bool.not_true, Bool.not_false, Bool.and_eq_true, Bool.or_eq_true, Bool.and_eq_false_iff, Bool.or_eq_false_iff, Bool.not_not, beq_true, beq_false, decide_eq_true_eq, decide_eq_false_iff_not] at c4)
          rw [f1, f2] at c4
          rw [if_pos c4] at ha; have hz := unhex_stop ha (by omega) (by omega); rw [hv] at hz; cases hz
        · skip
          have c4 := h4
          (simp only [Bool.not_eq_true', Bool.not_eq_false', Bool.not_true, Bool.not_false, Bool.and_eq_true, Bool.or_eq_true, Bool.and_eq_false_iff, Bool.or_eq_false_iff, Bool.not_not, beq_true, beq_false, decide_eq_true_eq, decide_eq_false_iff_not] at c4)
          rw [f1, f2] at c4; have b1 := hexv_bd (l.getD (2 * u.length) 0); have b2 := hexv_bd (l.getD (2 * u.length + 1) 0)
          rw [if_neg (fun h => h.elim c4.1 c4.2)] at ha
          repeat (refine Ob.mk ?_ ?_; (focus (first | (rw [f1, f2]; exact Eq.refl _) | (exact Eq.refl _) | omega | (simp only [SrcE.len, Nat.zero_add, List.length_append, List.length_cons, List.length_nil]; omega) | (simp_all; omega))))
          have hnx : ∀ x : UInt8, 2 * (u ++ [x]).length = 2 * u.length + 2 := fun x => by simp; omega
          have hny : unhex (l.take (2 * (u ++ [UInt8.ofNat (16 * hexv (l.getD (2 * u.length) 0) + hexv (l.getD (2 * u.length + 1) 0)).toNat]).length)) = some (u ++ [UInt8.ofNat (16 * hexv (l.getD (2 * u.length) 0) + hexv (l.getD (2 * u.length + 1) 0)).toNat]) ∧ 2 * (u ++ [UInt8.ofNat (16 * hexv (l.getD (2 * u.length) 0) + hexv (l.getD (2 * u.length + 1) 0)).toNat]).length ≤ l.length := by rw [hnx]; exact ⟨ha, by omega⟩
          refine ⟨u ++ [UInt8.ofNat (16 * hexv (l.getD (2 * u.length) 0) + hexv (l.getD (2 * u.length + 1) 0)).toNat], (by assumption), (by (simp only [SrcE.len, Nat.zero_add, List.length_append, List.length_cons, List.length_nil]; omega)), ?_⟩
          repeat (refine Ob.mk ?_ ?_; (focus (first | (rw [f1, f2, u8of_small (by omega) (by omega)]; done) | (exact Eq.refl _) | (exact Nat.le_of_ble_eq_true rfl) | (simp only [SrcE.len, Nat.zero_add, List.length_append, List.length_cons, List.length_nil]; first | done | omega))))
          trivial
      · skip
        have c3 := h3
        (simp only [Bool.not_eq_true', Bool.not_eq_false', Bool.not_true, Bool.not_false, Bool.and_eq_true, Bool.or_eq_true, Bool.and_eq_false_iff, Bool.or_eq_false_iff, Bool.not_not, beq_true, beq_false, decide_eq_true_eq, decide_eq_false_iff_not] at c3)
        obtain ⟨hu, hle⟩ := hx1; have he : 2 * u.length = l.length := by omega
        rw [List.take_of_length_le (by omega)] at hu; rw [hv] at hu; cases hu
        repeat (refine Ob.mk ?_ ?_; focus (first | (exact Eq.refl _) | omega))
        trivial

theorem hexO {k : List UInt8} (h : hexC k = 0) : Cf Try.prog 63 [] [.s k] [(60, .rb (hexB k) 5 0)] (.tup [.osl 60 32, .i 0]) := by
  obtain ⟨e1, e2, e3⟩ := key_bytes h
  have q := cf_hexBytesO e2 (by have := key_len h; omega)
  rw [e3] at q; exact q
set_option maxRecDepth 100000 in
set_option maxHeartbeats 4000000 in
theorem cf_Secret {a b c : List UInt8} (ha : hexC a = 0) (hb : hexC b = 0) (hc : c = [] ∨ hexC c = 0) : Cf Try.prog 34 [] [.s a, .s b, .s c] [] (.tup [.s (if a = b then [] else secS a b c), .i (if a = b then 6 else 0)]) := by
  have hmin := hexO (minB_ok ha hb)
  have hmax := hexO (maxB_ok ha hb)
  have l1 := (key_bytes (minB_ok ha hb)).2.2
  have l2 := (key_bytes (maxB_ok ha hb)).2.2
  have hS := sum_ok (l := hexB (minB a b) ++ hexB (maxB a b)) (by rw [List.length_append, l1, l2]; decide)
  have sl := shaSum_length (hexB (minB a b) ++ hexB (maxB a b))
  have hT := cf_hexText (l := shaSum (hexB (minB a b) ++ hexB (maxB a b))) (by rw [sl]; decide)
  have cl : c.length ≤ 64 := hc.elim (fun h => by rw [h]; decide) (fun h => by have := key_len h; omega)
  have hD := der_cf (k := hexText (shaSum (hexB (minB a b) ++ hexB (maxB a b)))) (l := [112, 97, 105, 114] ++ c) (hexText_key _ sl) (by simp; omega)
  refine Cf.introR tabT {} D0 (by kernel_rfl) tab_ok Try.func34 Try.ntmps34 rfl rfl (D0_ok) (by kernel_rfl) ?_
  refine ⟨Nat, fun j => ⟨[(0, .s a), (1, .s b), (2, .s c), (20, .agg [.s a, .s b]), (21, .i (j : Int))], []⟩, fun j => j ≤ 2, fun j => 2 - j, 0, by simp, ?_, fun j hx1 => ?_⟩
  · skip
    repeat (refine Ob.mk ?_ ?_; focus ((exact Eq.refl _)))
    trivial
  refine ⟨fun h1 => ?_, fun h1 => ?_⟩
  · skip
    have c1 := h1
    (simp only [Bool.not_eq_true', Bool.not_eq_false', Bool.not_true, Bool.not_false, Bool.and_eq_true, Bool.or_eq_true, Bool.and_eq_false_iff, Bool.or_eq_false_iff, Bool.not_not, beq_true, beq_false, decide_eq_true_eq, decide_eq_false_iff_not] at c1)
    rcases (by omega : j = 0 ∨ j = 1) with rfl | rfl
    · skip
      repeat (refine Ob.mk ?_ ?_; focus (omega))
      refine ⟨_, _, _, _, (@cf_hexCheck ?_), ?_⟩
      rotate_left 1
      repeat (refine Ob.mk ?_ ?_; focus ((exact Eq.refl _)))
      refine ⟨fun h2 => ?_, fun h2 => ?_⟩
      · skip
        have c2 := h2
        (simp only [Bool.not_eq_true', Bool.not_eq_false', Bool.not_true, Bool.not_false, Bool.and_eq_true, Bool.or_eq_true, Bool.and_eq_false_iff, Bool.or_eq_false_iff, Bool.not_not, beq_true, beq_false, decide_eq_true_eq, decide_eq_false_iff_not] at c2)
        repeat (refine Ob.mk ?_ ?_; focus (omega))
        trivial
      · skip
        have c2 := h2
        (simp only [Bool.not_eq_true', Bool.not_eq_false', Bool.not_true, Bool.not_false, Bool.and_eq_true, Bool.or_eq_true, Bool.and_eq_false_iff, Bool.or_eq_false_iff, Bool.not_not, beq_true, beq_false, decide_eq_true_eq, decide_eq_false_iff_not] at c2)
        repeat (refine Ob.mk ?_ ?_; focus (omega))
        refine ⟨0 + 1, (by omega), (by (exact Nat.le_of_ble_eq_true rfl)), ?_⟩
        repeat (refine Ob.mk ?_ ?_; focus ((exact Eq.refl _)))
        trivial
    · skip
      repeat (refine Ob.mk ?_ ?_; focus (omega))
      refine ⟨_, _, _, _, (@cf_hexCheck ?_), ?_⟩
      rotate_left 1
      repeat (refine Ob.mk ?_ ?_; focus ((exact Eq.refl _)))
      refine ⟨fun h3 => ?_, fun h3 => ?_⟩
      · skip
        have c3 := h3
        (simp only [Bool.not_eq_true', Bool.not_eq_false', Bool.not_true, Bool.not_false, Bool.and_eq_true, Bool.or_eq_true, Bool.and_eq_false_iff, Bool.or_eq_false_iff, Bool.not_not, beq_true, beq_false, decide_eq_true_eq, decide_eq_false_iff_not] at c3)
        repeat (refine Ob.mk ?_ ?_; focus (omega))
        trivial
      · skip
        have c3 := h3
        (simp only [Bool.not_eq_true', Bool.not_eq_false', Bool.not_true, Bool.not_false, Bool.and_eq_true, Bool.or_eq_true, Bool.and_eq_false_iff, Bool.or_eq_false_iff, Bool.not_not, beq_true, beq_false, decide_eq_true_eq, decide_eq_false_iff_not] at c3)
        repeat (refine Ob.mk ?_ ?_; focus (omega))
        refine ⟨1 + 1, (by omega), (by (exact Nat.le_of_ble_eq_true rfl)), ?_⟩
        repeat (refine Ob.mk ?_ ?_; focus ((exact Eq.refl _)))
        trivial
  · skip
    have c1 := h1
    (simp only [Bool.not_eq_true', Bool.not_eq_false', Bool.not_true, Bool.not_false, Bool.and_eq_true, Bool.or_eq_true, Bool.and_eq_false_iff, Bool.or_eq_false_iff, Bool.not_not, beq_true, beq_false, decide_eq_true_eq, decide_eq_false_iff_not] at c1)
    refine ⟨fun h4 => ?_, fun h4 => ?_⟩
    · skip
      have c4 := h4
      (simp only [Bool.not_eq_true', Bool.not_eq_false', Bool.not_true, Bool.not_false, Bool.and_eq_true, Bool.or_eq_true, Bool.and_eq_false_iff, Bool.or_eq_false_iff, Bool.not_not, beq_true, beq_false, decide_eq_true_eq, decide_eq_false_iff_not] at c4)
      repeat (refine Ob.mk ?_ ?_; (focus (first | (simp [SrcE.len]; omega) | (simp_all; done))))
      trivial
    · skip
      have c4 := h4
      (simp only [Bool.not_eq_true', Bool.not_eq_false', Bool.not_true, Bool.not_false, Bool.and_eq_true, Bool.or_eq_true, Bool.and_eq_false_iff, Bool.or_eq_false_iff, Bool.not_not, beq_true, beq_false, decide_eq_true_eq, decide_eq_false_iff_not] at c4)
      refine ⟨fun h5 => ?_, fun h5 => ?_⟩
      · skip
        have c5 := h5
        (simp only [Bool.not_eq_true', Bool.not_eq_false', Bool.not_true, Bool.not_false, Bool.and_eq_true, Bool.or_eq_true, Bool.and_eq_false_iff, Bool.or_eq_false_iff, Bool.not_not, beq_true, beq_false, decide_eq_true_eq, decide_eq_false_iff_not] at c5)
        refine ⟨_, _, _, _, (@cf_hexCheck ?_), ?_⟩
        rotate_left 1
        repeat (refine Ob.mk ?_ ?_; focus ((exact Eq.refl _)))
        refine ⟨fun h6 => ?_, fun h6 => ?_⟩
        · skip
          have c6 := h6
          (simp only [Bool.not_eq_true', Bool.not_eq_false', Bool.not_true, Bool.not_false, Bool.and_eq_true, Bool.or_eq_true, Bool.and_eq_false_iff, Bool.or_eq_false_iff, Bool.not_not, beq_true, beq_false, decide_eq_true_eq, decide_eq_false_iff_not] at c6)
          repeat (refine Ob.mk ?_ ?_; (focus (((simp_all; done)))))
          trivial
        · skip
          have c6 := h6
          (simp only [Bool.not_eq_true', Bool.not_eq_false', Bool.not_true, Bool.not_false, Bool.and_eq_true, Bool.or_eq_true, Bool.and_eq_false_iff, Bool.or_eq_false_iff, Bool.not_not, beq_true, beq_false, decide_eq_true_eq, decide_eq_false_iff_not] at c6)
          refine ⟨_, _, _, _, hmin, ?_⟩
          repeat (refine Ob.mk ?_ ?_; focus ((exact Eq.refl _)))
          refine ⟨_, _, _, _, hmax, ?_⟩
          repeat (refine Ob.mk ?_ ?_; (focus (first | (exact l1.symm) | (exact l2.symm) | (exact Eq.refl _) | (simp only [SrcE.len, Nat.zero_add, List.length_append, List.length_cons, List.length_nil]; omega))))
          refine ⟨_, _, _, _, hS, ?_⟩
          repeat (refine Ob.mk ?_ ?_; (focus (first | (exact Eq.refl _) | (simp only [SrcE.len, Nat.zero_add, List.length_append, List.length_cons, List.length_nil]; omega))))
          refine ⟨fun h7 => ?_, fun h7 => ?_⟩
          · skip
            (simp only [Int.reduceToNat, UInt8.reduceOfNat] at h7)
            have c7 := h7
            (simp only [Bool.not_eq_true', Bool.not_eq_false', Bool.not_true, Bool.not_false, Bool.and_eq_true, Bool.or_eq_true, Bool.and_eq_false_iff, Bool.or_eq_false_iff, Bool.not_not, beq_true, beq_false, decide_eq_true_eq, decide_eq_false_iff_not] at c7)
            repeat (refine Ob.mk ?_ ?_; (focus (first | (simp [SrcE.len]; omega) | (simp_all; done))))
            trivial
          · skip
            (simp only [Int.reduceToNat, UInt8.reduceOfNat] at h7)
            have c7 := h7
            (simp only [Bool.not_eq_true', Bool.not_eq_false', Bool.not_true, Bool.not_false, Bool.and_eq_true, Bool.or_eq_true, Bool.and_eq_false_iff, Bool.or_eq_false_iff, Bool.not_not, beq_true, beq_false, decide_eq_true_eq, decide_eq_false_iff_not] at c7)
            refine ⟨_, _, _, _, hT, ?_⟩
            repeat (refine Ob.mk ?_ ?_; (focus (first | (exact Eq.refl _) | (simp only [SrcE.len, Nat.zero_add, List.length_append, List.length_cons, List.length_nil]; omega))))
            refine ⟨_, _, _, _, hD, ?_⟩
            repeat (refine Ob.mk ?_ ?_; (focus (first | (rw [if_neg c4]; exact Eq.refl _) | (exact Eq.refl _) | (simp [SrcE.len]; omega))))
            trivial
      · skip
        have c5 := h5
        (simp only [Bool.not_eq_true', Bool.not_eq_false', Bool.not_true, Bool.not_false, Bool.and_eq_true, Bool.or_eq_true, Bool.and_eq_false_iff, Bool.or_eq_false_iff, Bool.not_not, beq_true, beq_false, decide_eq_true_eq, decide_eq_false_iff_not] at c5)
        refine ⟨_, _, _, _, hmin, ?_⟩
        repeat (refine Ob.mk ?_ ?_; focus ((exact Eq.refl _)))
        refine ⟨_, _, _, _, hmax, ?_⟩
        repeat (refine Ob.mk ?_ ?_; (focus (first | (exact l1.symm) | (exact l2.symm) | (exact Eq.refl _) | (simp only [SrcE.len, Nat.zero_add, List.length_append, List.length_cons, List.length_nil]; omega))))
        refine ⟨_, _, _, _, hS, ?_⟩
        repeat (refine Ob.mk ?_ ?_; (focus (first | (exact Eq.refl _) | (simp only [SrcE.len, Nat.zero_add, List.length_append, List.length_cons, List.length_nil]; omega))))
        refine ⟨fun h8 => ?_, fun h8 => ?_⟩
        · skip
          (simp only [Int.reduceToNat, UInt8.reduceOfNat] at h8)
          have c8 := h8
          (simp only [Bool.not_eq_true', Bool.not_eq_false', Bool.not_true, Bool.not_false, Bool.and_eq_true, Bool.or_eq_true, Bool.and_eq_false_iff, Bool.or_eq_false_iff, Bool.not_not, beq_true, beq_false, decide_eq_true_eq, decide_eq_false_iff_not] at c8)
          repeat (refine Ob.mk ?_ ?_; (focus (first | (simp [SrcE.len]; omega) | (simp_all; done))))
          trivial
        · skip
          (simp only [Int.reduceToNat, UInt8.reduceOfNat] at h8)
          have c8 := h8
          (simp only [Bool.not_eq_true', Bool.not_eq_false', Bool.not_true, Bool.not_false, Bool.and_eq_true, Bool.or_eq_true, Bool.and_eq_false_iff, Bool.or_eq_false_iff, Bool.not_not, beq_true, beq_false, decide_eq_true_eq, decide_eq_false_iff_not] at c8)
          refine ⟨_, _, _, _, hT, ?_⟩
          repeat (refine Ob.mk ?_ ?_; (focus (first | (exact Eq.refl _) | (simp only [SrcE.len, Nat.zero_add, List.length_append, List.length_cons, List.length_nil]; omega))))
          refine ⟨_, _, _, _, hD, ?_⟩
          repeat (refine Ob.mk ?_ ?_; (focus (first | (rw [if_neg c4]; exact Eq.refl _) | (exact Eq.refl _) | (simp [SrcE.len]; omega))))
          trivial
end Go.Proofs.Ytpcagbfnddgjpaa
