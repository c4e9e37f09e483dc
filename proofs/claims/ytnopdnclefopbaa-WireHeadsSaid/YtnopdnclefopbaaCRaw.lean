/- The laws' own helpers: contracts. -/
import Derived.Test.YtnopdnclefopbaaTab
import Derived.Test.YtnopdnclefopbaaWireF
import Derived.Test.YtnopdnclefopbaaLf
namespace Go.Proofs.Ytnopdnclefopbaa
open Go.RowKit
set_option linter.unusedVariables false
set_option linter.unusedSimpArgs false

set_option maxRecDepth 100000 in
set_option maxHeartbeats 4000000 in
theorem cf_picked {n m : Int} (hq1 : -9223372036854775808 ≤ n) (hq2 : n ≤ 9223372036854775807) (hm : 0 < m) : Cf Try.prog 24 [] [.i n, .i m] [] (.i (pk n m)) := by
  refine Cf.introR tabT {} D0 (by kernel_rfl) tab_ok Try.func24 Try.ntmps24 rfl rfl (D0_ok) (by kernel_rfl) ?_
  refine ⟨fun h1 => ?_, fun h1 => ?_⟩
  · skip
    have c1 := h1
    (simp only [Bool.not_eq_true', Bool.not_eq_false', Bool.not_true, Bool.not_false, Bool.and_eq_true, Bool.or_eq_true, Bool.and_eq_false_iff, Bool.or_eq_false_iff, Bool.not_not, beq_true, beq_false, decide_eq_true_eq, decide_eq_false_iff_not] at c1)
    repeat (refine Ob.mk ?_ ?_; (focus (first | omega | (simp only [pk, h1, cond_true, cond_false, Bool.not_true, Bool.not_false, Bool.and_true, Bool.true_and, Bool.and_false, Bool.false_and, Bool.or_true, Bool.true_or, Bool.or_false, Bool.false_or, Int.reduceToNat, UInt8.reduceOfNat]; done))))
    trivial
  · skip
    have c1 := h1
    (simp only [Bool.not_eq_true', Bool.not_eq_false', Bool.not_true, Bool.not_false, Bool.and_eq_true, Bool.or_eq_true, Bool.and_eq_false_iff, Bool.or_eq_false_iff, Bool.not_not, beq_true, beq_false, decide_eq_true_eq, decide_eq_false_iff_not] at c1)
    repeat (refine Ob.mk ?_ ?_; (focus (first | omega | (simp only [pk, h1, cond_true, cond_false, Bool.not_true, Bool.not_false, Bool.and_true, Bool.true_and, Bool.and_false, Bool.false_and, Bool.or_true, Bool.true_or, Bool.or_false, Bool.false_or, Int.reduceToNat, UInt8.reduceOfNat]; done))))
    trivial
set_option maxRecDepth 100000 in
set_option maxHeartbeats 4000000 in
theorem cf_cloneBytes {l : List UInt8} (hl : l.length ≤ 100000000) : Cf Try.prog 46 [] [.bs l] [(60, .rb l 5 0)] (.osl 60 l.length) := by
  refine Cf.introR tabT {own := [(2, 5)]} D0 (by kernel_rfl) tab_ok Try.func46 Try.ntmps46 rfl rfl (D0_ok) (by kernel_rfl) ?_
  refine fun g1 hg1 => ?_
  refine ⟨fun h2 => ?_, fun h2 => ?_⟩
  · skip
    have c2 := h2
    have hm0 := hg1 h2; obtain rfl : l = [] := List.eq_nil_of_length_eq_zero (by omega)
    repeat (refine Ob.mk ?_ ?_; focus (first | (exact Eq.refl _) | omega))
    trivial
  · skip
    have c2 := h2
    repeat (refine Ob.mk ?_ ?_; (focus (first | (exact Eq.refl _) | (exact Nat.le_of_ble_eq_true rfl) | (simp only [SrcE.len, Nat.zero_add, List.length_append, List.length_cons, List.length_nil]; first | done | omega))))
    trivial
set_option maxRecDepth 100000 in
set_option maxHeartbeats 4000000 in
theorem cf_Turned {l : List UInt8} {at_ : Int} {y : UInt8} (hl : l.length ≤ 1000000) (hq1 : -9223372036854775808 ≤ at_) (hq2 : at_ ≤ 9223372036854775807) : Cf Try.prog 38 [] [.bs l, .i at_, .u8 y] [(60, .rb (trn l at_ y) 5 0)] (.osl 60 (trn l at_ y).length) := by
  refine Cf.introR tabT {} D0 (by kernel_rfl) tab_ok Try.func38 Try.ntmps38 rfl rfl (D0_ok) (by kernel_rfl) ?_
  refine ⟨_, _, _, _, (@cf_cloneBytes ?_ ?_), ?_⟩
  rotate_left 2
  repeat (refine Ob.mk ?_ ?_; focus ((exact Eq.refl _)))
  refine ⟨fun h1 => ?_, fun h1 => ?_⟩
  · skip
    have c1 := h1
    (simp only [Bool.not_eq_true', Bool.not_eq_false', Bool.not_true, Bool.not_false, Bool.and_eq_true, Bool.or_eq_true, Bool.and_eq_false_iff, Bool.or_eq_false_iff, Bool.not_not, beq_true, beq_false, decide_eq_true_eq, decide_eq_false_iff_not] at c1)
    have hpk0 := pk_ge at_ (m := (l.length : Int)) (by omega); have hpk1 := pk_lt at_ (m := (l.length : Int)) (by omega)
    refine ⟨_, _, _, _, (@cf_picked ?_ ?_ ?_ ?_ ?_), ?_⟩
    rotate_left 5
    repeat (refine Ob.mk ?_ ?_; (focus (first | (exact Eq.refl _) | omega | (simp only [trn, h1, cond_true, cond_false, Bool.not_true, Bool.not_false, Bool.and_true, Bool.true_and, Bool.and_false, Bool.false_and, Bool.or_true, Bool.true_or, Bool.or_false, Bool.false_or, Int.reduceToNat, UInt8.reduceOfNat]; done) | (simp_all [trn]; done))))
    trivial
    all_goals (assumption)
  · skip
    have c1 := h1
    (simp only [Bool.not_eq_true', Bool.not_eq_false', Bool.not_true, Bool.not_false, Bool.and_eq_true, Bool.or_eq_true, Bool.and_eq_false_iff, Bool.or_eq_false_iff, Bool.not_not, beq_true, beq_false, decide_eq_true_eq, decide_eq_false_iff_not] at c1)
    repeat (refine Ob.mk ?_ ?_; (focus (first | omega | (simp only [trn, h1, cond_true, cond_false, Bool.not_true, Bool.not_false, Bool.and_true, Bool.true_and, Bool.and_false, Bool.false_and, Bool.or_true, Bool.true_or, Bool.or_false, Bool.false_or, Int.reduceToNat, UInt8.reduceOfNat]; done))))
    trivial
  all_goals (omega)
theorem mT_sel (k : Int) : ([1, 2, 4] : List Int).getD (pk k 3).toNat 0 = mT k := by
  have h1 := pk_ge k (m := 3) (by decide)
  have h2 := pk_lt k (m := 3) (by decide)
  have h : pk k 3 = 0 ∨ pk k 3 = 1 ∨ pk k 3 = 2 := by omega
  unfold mT
  rcases h with h | h | h <;> rw [h] <;> rfl
theorem pad_eq (n : Nat) (s : List UInt8) : List.take n s ++ List.drop (List.take n s).length (List.replicate n 0) = pad n s := by
  unfold pad
  rw [List.drop_replicate, List.length_take]
  congr 2; omega

abbrev msgE (t s r c : Int) (l : List UInt8) : EV := .agg [.i t, .i s, .i r, .i c, .bs l]
set_option maxRecDepth 100000 in
set_option maxHeartbeats 4000000 in
theorem cf_message {k a b : Int} {s : List UInt8} (hk1 : -9223372036854775808 ≤ k) (hk2 : k ≤ 9223372036854775807) (ha1 : -9223372036854775808 ≤ a) (ha2 : a ≤ 9223372036854775807) (hb1 : -9223372036854775808 ≤ b) (hb2 : b ≤ 9223372036854775807) : Cf Try.prog 43 [] [rawE k a b s] [] (msgE (mT k) (m3 k (pk a 4294967296) (pk a 4294967296) 0) (m3 k 0 (pk b 4294967296) (pk a 4294967296)) (m3 k 0 0 (pk b 1099511627777)) (pad (mL k s) s)) := by
  have hp0 := pk_ge k (m := 3) (by decide); have hp1 := pk_lt k (m := 3) (by decide)
  refine Cf.introR tabT {sel := [8]} (DR _ _ _ tabT {sel := [8]}) (by kernel_rfl) tab_ok Try.func43 Try.ntmps43 rfl rfl (DR_ok tab_ok (by kernel_rfl)) (by kernel_rfl) ?_
  refine ⟨_, _, _, _, (@cf_picked ?_ ?_ ?_ ?_ ?_), ?_⟩
  rotate_left 5
  repeat (refine Ob.mk ?_ ?_; focus (first | (exact Eq.refl _) | omega))
  refine ⟨fun h1 => ?_, fun h1 => ?_⟩
  · skip
    have c1 := h1
    (simp only [Bool.not_eq_true', Bool.not_eq_false', Bool.not_true, Bool.not_false, Bool.and_eq_true, Bool.or_eq_true, Bool.and_eq_false_iff, Bool.or_eq_false_iff, Bool.not_not, beq_true, beq_false, decide_eq_true_eq, decide_eq_false_iff_not] at c1)
    rw [mT_sel] at h1 c1
    refine ⟨[0, 1, 3, 0, 7, 23, 63, 127], by kernel_rfl, ?_⟩
    refine ⟨_, _, _, _, (@cf_picked ?_ ?_ ?_ ?_ ?_), ?_⟩
    rotate_left 5
    repeat (refine Ob.mk ?_ ?_; (focus (first | (exact Eq.refl _) | omega | (exact mT_sel k) | (rw [pad_eq]; simp only [mL, m3, h1, cond_true, cond_false]; rfl) | (simp only [m3, mL, h1, cond_true, cond_false, pad]; done) | (simp [SrcE.len]; omega))))
    trivial
    all_goals (first | assumption | omega)
  · skip
    have c1 := h1
    (simp only [Bool.not_eq_true', Bool.not_eq_false', Bool.not_true, Bool.not_false, Bool.and_eq_true, Bool.or_eq_true, Bool.and_eq_false_iff, Bool.or_eq_false_iff, Bool.not_not, beq_true, beq_false, decide_eq_true_eq, decide_eq_false_iff_not] at c1)
    rw [mT_sel] at h1 c1
    refine ⟨fun h2 => ?_, fun h2 => ?_⟩
    · skip
      have c2 := h2
      (simp only [Bool.not_eq_true', Bool.not_eq_false', Bool.not_true, Bool.not_false, Bool.and_eq_true, Bool.or_eq_true, Bool.and_eq_false_iff, Bool.or_eq_false_iff, Bool.not_not, beq_true, beq_false, decide_eq_true_eq, decide_eq_false_iff_not] at c2)
      rw [mT_sel] at h2 c2
      refine ⟨[0, 1, 3, 0, 8, 31, 0, 7, 191, 447, 959, 2047, 4095], by kernel_rfl, ?_⟩
      refine ⟨_, _, _, _, (@cf_picked ?_ ?_ ?_ ?_ ?_), ?_⟩
      rotate_left 5
      repeat (refine Ob.mk ?_ ?_; focus ((exact Eq.refl _)))
      refine ⟨_, _, _, _, (@cf_picked ?_ ?_ ?_ ?_ ?_), ?_⟩
      rotate_left 5
      repeat (refine Ob.mk ?_ ?_; (focus (first | (exact Eq.refl _) | omega | (exact mT_sel k) | (rw [pad_eq]; simp only [mL, m3, h1, h2, cond_true, cond_false]; rfl) | (simp only [m3, mL, h1, h2, cond_true, cond_false, pad]; done) | (simp [SrcE.len]; omega))))
      trivial
      all_goals (first | assumption | omega)
    · skip
      have c2 := h2
      (simp only [Bool.not_eq_true', Bool.not_eq_false', Bool.not_true, Bool.not_false, Bool.and_eq_true, Bool.or_eq_true, Bool.and_eq_false_iff, Bool.or_eq_false_iff, Bool.not_not, beq_true, beq_false, decide_eq_true_eq, decide_eq_false_iff_not] at c2)
      rw [mT_sel] at h2 c2
      refine ⟨[0, 1, 3, 0, 8, 31, 0, 64, 192, 448, 960, 1984, 7, 4159, 12351, 28735, 65535, 131071], by kernel_rfl, ?_⟩
      refine ⟨_, _, _, _, (@cf_picked ?_ ?_ ?_ ?_ ?_), ?_⟩
      rotate_left 5
      repeat (refine Ob.mk ?_ ?_; focus ((exact Eq.refl _)))
      refine ⟨_, _, _, _, (@cf_picked ?_ ?_ ?_ ?_ ?_), ?_⟩
      rotate_left 5
      repeat (refine Ob.mk ?_ ?_; (focus (first | (exact Eq.refl _) | omega | (exact mT_sel k) | (rw [pad_eq]; simp only [mL, m3, h1, h2, cond_true, cond_false]; ((congr 1; omega))) | (simp only [m3, mL, h1, h2, cond_true, cond_false, pad]; done) | (simp [SrcE.len]; done) | (simp [SrcE.len]; omega))))
      trivial
      all_goals (first | assumption | omega)
  all_goals (first | assumption | omega)
end Go.Proofs.Ytnopdnclefopbaa
