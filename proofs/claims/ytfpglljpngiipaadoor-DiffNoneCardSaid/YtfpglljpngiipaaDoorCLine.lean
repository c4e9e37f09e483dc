/- package line: contracts. -/
import Derived.Test.YtfpglljpngiipaaDoorCStrs
namespace Go.Proofs.YtfpglljpngiipaaDoor
open Go.RowKit
set_option linter.unusedVariables false
set_option linter.unusedSimpArgs false

theorem ln_snoc {n sz : Nat} {f g : Nat → Nat → EV} {m : List EV} (h1 : ∀ a, a < n → ∀ j, j < sz → f a j = g a j) (h2 : ∀ j, j < sz → m.getD j .any = g n j) : ∀ a, a < n + 1 → ∀ j, j < sz → (bif Nat.blt a n then f a j else m.getD ((a - n) * sz + j) .any) = g a j := by
  intro a ha j hj
  by_cases hq : a < n
  · have : Nat.blt a n = true := by simpa [Nat.blt_eq] using hq
    rw [this]; exact h1 a hq j hj
  · obtain rfl : a = n := by omega
    have : Nat.blt a a = false := by cases hb : Nat.blt a a with | false => rfl | true => (rw [Nat.blt_eq] at hb; omega)
    rw [this, Nat.sub_self, Nat.zero_mul, Nat.zero_add]; exact h2 j hj
set_option maxRecDepth 100000 in
set_option maxHeartbeats 4000000 in
theorem cf_LCutInO {l : List UInt8} {c : UInt8} (h : c ∈ l) (hl : l.length ≤ 1100000) : Cf Tryd.prog 104 [] [.s l, .s [c]] [] (.tup [.s (bef c l), .s (aft c l), .b true]) := by
  have hT1 : (((bef c l).length : Nat) : Int).toNat = (bef c l).length := by omega
  have hT2 : (((bef c l).length : Int) + ((([c] : List UInt8).length : Nat) : Int)).toNat = (bef c l).length + 1 := by simp only [List.length_singleton]; omega
  have hT3 : ((([c] : List UInt8).length : Nat) : Int) = 1 := rfl
  have hI := cf_IndexL1 (l := l) (c := c)
  rw [ixb_in h] at hI
  have hle : (bef c l).length + (aft c l).length + 1 = l.length := by rw [← congrArg List.length (bef_aft h)]; simp; omega
  refine Cf.introR tabT {} (DR _ _ _ tabT {}) (by kernel_rfl) tab_ok Tryd.func104 Tryd.ntmps104 rfl rfl (DR_ok tab_ok (by kernel_rfl)) (by kernel_rfl) ?_
  refine ⟨_, _, _, _, hI, ?_⟩
  repeat (refine Ob.mk ?_ ?_; focus ((exact Eq.refl _)))
  refine ⟨fun h1 => ?_, fun h1 => ?_⟩
  · skip
    have c1 := h1
    (simp only [bsX] at c1)
    refine ⟨[0, 0, 3, 0, 0, 0, 32, 112, 248, 7, 1023, 2047], by kernel_rfl, ?_⟩
    repeat (refine Ob.mk ?_ ?_; (focus (first | (rw [hT3]; omega) | (show List.drop ((((bef c l).length : Int) + ((([c] : List UInt8).length : Nat) : Int)).toNat) l = _; rw [hT2]; exact drop_aft h) | (show List.take ((((bef c l).length : Nat) : Int).toNat) l = _; rw [hT1]; exact take_bef h) | (exact Eq.refl _) | omega)))
    trivial
  · skip
    have c1 := h1
    (simp only [bsX] at c1)
    exfalso; simp at h1
set_option maxRecDepth 100000 in
set_option maxHeartbeats 4000000 in
theorem cf_LCutNoO {l : List UInt8} {c : UInt8} (h : c ∉ l) : Cf Tryd.prog 104 [] [.s l, .s [c]] [] (.tup [.s l, .s [], .b false]) := by
  have hI := cf_IndexL1 (l := l) (c := c)
  rw [ixb_out h] at hI
  refine Cf.introR tabT {} (DR _ _ _ tabT {}) (by kernel_rfl) tab_ok Tryd.func104 Tryd.ntmps104 rfl rfl (DR_ok tab_ok (by kernel_rfl)) (by kernel_rfl) ?_
  refine ⟨_, _, _, _, hI, ?_⟩
  repeat (refine Ob.mk ?_ ?_; focus ((exact Eq.refl _)))
  refine ⟨fun h1 => ?_, fun h1 => ?_⟩
  · skip
    have c1 := h1
    (simp only [bsX] at c1)
    exact absurd (show false = true from h1) (by decide)
  · skip
    have c1 := h1
    (simp only [bsX] at c1)
    repeat (refine Ob.mk ?_ ?_; focus ((exact Eq.refl _)))
    trivial
theorem cf_LCut {l : List UInt8} {c : UInt8} (hl : l.length ≤ 1100000) : Cf Tryd.prog 104 [] [.s l, .s [c]] [] (.tup [.s (bef c l), .s (aft c l), .b (decide (c ∈ l))]) := by
  by_cases h : c ∈ l
  · rw [decide_eq_true h]; exact cf_LCutInO h hl
  · rw [decide_eq_false h, bef_out h, aft_out h]; exact cf_LCutNoO h
set_option maxRecDepth 100000 in
set_option maxHeartbeats 4000000 in
theorem cf_Cut1 {l : List UInt8} {c : UInt8} (hl : l.length ≤ 1100000) : Cf Tryd.prog 79 [] [.s l, .s [c]] [] (.tup [.s (bef c l), .s (aft c l), .b (decide (c ∈ l))]) := by
  refine Cf.introR tabT {} D0 (by kernel_rfl) tab_ok Tryd.func79 Tryd.ntmps79 rfl rfl (D0_ok) (by kernel_rfl) ?_
  refine ⟨_, _, _, _, (cf_LCut (l := l) (c := c) hl), ?_⟩
  repeat (refine Ob.mk ?_ ?_; focus ((exact Eq.refl _)))
  trivial
end Go.Proofs.YtfpglljpngiipaaDoor
