/- Tries: put (printed by mkput.py). -/
import Derived.Test.YtcdoobkaobiacaaCTrieT
namespace Go.Proofs.Ytcdoobkaobiacaa
open Go.RowKit Tr
set_option linter.unusedVariables false
set_option linter.unusedSimpArgs false

theorem adr_eqB {p q : List Bool} (hp : p.length ≤ 32) (hne : p ≠ q) : (decide (adr p = adr q) && decide ((p.length : Int) = (q.length : Int))) = false := by
  cases h : (decide (adr p = adr q) && decide ((p.length : Int) = (q.length : Int))) with
  | false => rfl
  | true =>
    rw [Bool.and_eq_true, decide_eq_true_eq, decide_eq_true_eq] at h
    exact absurd (adr_inj (by omega) hp h.1) hne
set_option maxRecDepth 100000 in
set_option maxHeartbeats 4000000 in
theorem cf_putNilO {n : List Bool} {o : List UInt8} : Cf Try.prog 25 [] [.v (.pointer none), netE n, .s o] [] (.rp (Tr.node n o .nil .nil).c) := by
  refine Cf.introR tabT {} (DR _ _ _ tabT {}) (by kernel_rfl) tab_ok Try.func25 Try.ntmps25 rfl rfl (DR_ok tab_ok (by kernel_rfl)) (by kernel_rfl) ?_
  refine ⟨fun h1 => ?_, fun h1 => ?_⟩
  · skip
    (simp only [Int.reduceToNat, UInt8.reduceOfNat] at h1)
    have c1 := h1
    repeat (refine Ob.mk ?_ ?_; focus ((exact Eq.refl _)))
    trivial
  · skip
    have c1 := h1
    exact absurd (show true = false from h1) (by decide)
set_option maxRecDepth 100000 in
set_option maxHeartbeats 4000000 in
theorem cf_putEqO {n : List Bool} {x o : List UInt8} {l r : Tr} : Cf Try.prog 25 [] [nodeE n x l r, netE n, .s o] [] (.rp (Tr.node n o l r).c) := by
  refine Cf.introR tabT {} (DR _ _ _ tabT {}) (by kernel_rfl) tab_ok Try.func25 Try.ntmps25 rfl rfl (DR_ok tab_ok (by kernel_rfl)) (by kernel_rfl) ?_
  refine ⟨fun h1 => ?_, fun h1 => ?_⟩
  · skip
    have c1 := h1
    exact absurd (show false = true from h1) (by decide)
  · skip
    (simp only [Int.reduceToNat, UInt8.reduceOfNat] at h1)
    have c1 := h1
    refine ⟨[0, 1, 3, 7, 0, 31, 63], by kernel_rfl, ?_⟩
    refine ⟨fun h2 => ?_, fun h2 => ?_⟩
    · skip
      (simp only [Int.reduceToNat, UInt8.reduceOfNat] at h2)
      have c2 := h2
      (simp only [Bool.not_eq_true', Bool.not_eq_false', Bool.not_true, Bool.not_false, Bool.and_eq_true, Bool.or_eq_true, Bool.and_eq_false_iff, Bool.or_eq_false_iff, Bool.not_not, beq_true, beq_false, decide_eq_true_eq, decide_eq_false_iff_not] at c2)
      refine ⟨[0, 0, 0, 4, 12, 28, 63, 127, 255], by kernel_rfl, ?_⟩
      repeat (refine Ob.mk ?_ ?_; focus ((exact Eq.refl _)))
      trivial
    · skip
      (simp only [Int.reduceToNat, UInt8.reduceOfNat] at h2)
      have c2 := h2
      (simp only [Bool.not_eq_true', Bool.not_eq_false', Bool.not_true, Bool.not_false, Bool.and_eq_true, Bool.or_eq_true, Bool.and_eq_false_iff, Bool.or_eq_false_iff, Bool.not_not, beq_true, beq_false, decide_eq_true_eq, decide_eq_false_iff_not] at c2)
      exact absurd h2 (by simp)
set_option maxRecDepth 100000 in
set_option maxHeartbeats 4000000 in
theorem cf_putLow0O {p n : List Bool} {x o : List UInt8} {l r : Tr} (hp : p.length ≤ 32) (hn : n.length ≤ 32) {m : Tr} (hb : p ++ [false] <+: n) (ih : Cf Try.prog 25 [] [.rp l.c, netE n, .s o] [] (.rp m.c)) : Cf Try.prog 25 [] [nodeE p x l r, netE n, .s o] [] (.rp (Tr.node p x m r).c) := by
  have hne : p ≠ n := pre_ne hb
  have hl : p.length < 32 := by have := hb.length_le; simp at this; omega
  have hd : decide (p <+: n) = true := decide_eq_true (pre_of hb)
  refine Cf.introR tabT {} (DR _ _ _ tabT {}) (by kernel_rfl) tab_ok Try.func25 Try.ntmps25 rfl rfl (DR_ok tab_ok (by kernel_rfl)) (by kernel_rfl) ?_
  refine ⟨fun h1 => ?_, fun h1 => ?_⟩
  · skip
    have c1 := h1
    exact absurd (show false = true from h1) (by decide)
  · skip
    (simp only [Int.reduceToNat, UInt8.reduceOfNat] at h1)
    have c1 := h1
    refine ⟨[0, 1, 3, 7, 0, 31, 63], by kernel_rfl, ?_⟩
    refine ⟨fun h2 => ?_, fun h2 => ?_⟩
    · skip
      have c2 := h2
      (simp only [Bool.not_eq_true', Bool.not_eq_false', Bool.not_true, Bool.not_false, Bool.and_eq_true, Bool.or_eq_true, Bool.and_eq_false_iff, Bool.or_eq_false_iff, Bool.not_not, beq_true, beq_false, decide_eq_true_eq, decide_eq_false_iff_not] at c2)
      exact absurd (adr_eqB hp hne) (by rw [h2]; decide)
    · skip
      have c2 := h2
      (simp only [Bool.not_eq_true', Bool.not_eq_false', Bool.not_true, Bool.not_false, Bool.and_eq_true, Bool.or_eq_true, Bool.and_eq_false_iff, Bool.or_eq_false_iff, Bool.not_not, beq_true, beq_false, decide_eq_true_eq, decide_eq_false_iff_not] at c2)
      refine ⟨[0, 1, 3, 7, 0, 31, 63], by kernel_rfl, ?_⟩
      refine ⟨_, _, _, _, (hd ▸ cf_nHolds hp hn), ?_⟩
      repeat (refine Ob.mk ?_ ?_; focus ((exact Eq.refl _)))
      refine ⟨fun h3 => ?_, fun h3 => ?_⟩
      · skip
        (simp only [Int.reduceToNat, UInt8.reduceOfNat] at h3)
        have c3 := h3
        refine ⟨[0, 1, 3, 7, 0, 31, 63], by kernel_rfl, ?_⟩
        refine ⟨_, _, _, _, (cf_side hl (bit_of hb)), ?_⟩
        repeat (refine Ob.mk ?_ ?_; focus ((exact Eq.refl _)))
        refine ⟨[0, 0, 0, 2, 10, 30, 62, 0, 0, 510, 0, 2047, 4095], by kernel_rfl, ?_⟩
        repeat (refine Ob.mk ?_ ?_; (focus (((simp [SrcE.len]; done)))))
        refine ⟨_, _, _, _, ih, ?_⟩
        repeat (refine Ob.mk ?_ ?_; (focus (first | (exact Eq.refl _) | (simp [SrcE.len]; done))))
        trivial
      · skip
        have c3 := h3
        exact absurd (show true = false from h3) (by decide)
set_option maxRecDepth 100000 in
set_option maxHeartbeats 4000000 in
theorem cf_putTop0O {p n : List Bool} {x o : List UInt8} {l r : Tr} (hp : p.length ≤ 32) (hn : n.length ≤ 32) (hb : n ++ [false] <+: p) : Cf Try.prog 25 [] [nodeE p x l r, netE n, .s o] [] (.rp (Tr.node n o (.node p x l r) .nil).c) := by
  have hne : p ≠ n := fun e => pre_ne hb e.symm
  have hl : n.length < 32 := by have := hb.length_le; simp at this; omega
  have hd : decide (p <+: n) = false := decide_eq_false (fun h => hne (pre_antisymm h (pre_of hb)))
  have he : decide (n <+: p) = true := decide_eq_true (pre_of hb)
  refine Cf.introR tabT {} (DR _ _ _ tabT {}) (by kernel_rfl) tab_ok Try.func25 Try.ntmps25 rfl rfl (DR_ok tab_ok (by kernel_rfl)) (by kernel_rfl) ?_
  refine ⟨fun h1 => ?_, fun h1 => ?_⟩
  · skip
    have c1 := h1
    exact absurd (show false = true from h1) (by decide)
  · skip
    (simp only [Int.reduceToNat, UInt8.reduceOfNat] at h1)
    have c1 := h1
    refine ⟨[0, 1, 3, 7, 0, 31, 63], by kernel_rfl, ?_⟩
    refine ⟨fun h2 => ?_, fun h2 => ?_⟩
    · skip
      have c2 := h2
      (simp only [Bool.not_eq_true', Bool.not_eq_false', Bool.not_true, Bool.not_false, Bool.and_eq_true, Bool.or_eq_true, Bool.and_eq_false_iff, Bool.or_eq_false_iff, Bool.not_not, beq_true, beq_false, decide_eq_true_eq, decide_eq_false_iff_not] at c2)
      exact absurd (adr_eqB hp hne) (by rw [h2]; decide)
    · skip
      have c2 := h2
      (simp only [Bool.not_eq_true', Bool.not_eq_false', Bool.not_true, Bool.not_false, Bool.and_eq_true, Bool.or_eq_true, Bool.and_eq_false_iff, Bool.or_eq_false_iff, Bool.not_not, beq_true, beq_false, decide_eq_true_eq, decide_eq_false_iff_not] at c2)
      refine ⟨[0, 1, 3, 7, 0, 31, 63], by kernel_rfl, ?_⟩
      refine ⟨_, _, _, _, (hd ▸ cf_nHolds hp hn), ?_⟩
      repeat (refine Ob.mk ?_ ?_; focus ((exact Eq.refl _)))
      refine ⟨fun h3 => ?_, fun h3 => ?_⟩
      · skip
        have c3 := h3
        exact absurd (show false = true from h3) (by decide)
      · skip
        (simp only [Int.reduceToNat, UInt8.reduceOfNat] at h3)
        have c3 := h3
        refine ⟨[0, 0, 2, 6, 14, 31, 63], by kernel_rfl, ?_⟩
        refine ⟨_, _, _, _, (he ▸ cf_nHolds hn hp), ?_⟩
        repeat (refine Ob.mk ?_ ?_; focus ((exact Eq.refl _)))
        refine ⟨fun h4 => ?_, fun h4 => ?_⟩
        · skip
          (simp only [Int.reduceToNat, UInt8.reduceOfNat] at h4)
          have c4 := h4
          refine ⟨[0, 0, 0, 4, 12, 28, 62, 0, 1, 257, 1023, 2047], by kernel_rfl, ?_⟩
          refine ⟨_, _, _, _, (cf_side hl (bit_of hb)), ?_⟩
          repeat (refine Ob.mk ?_ ?_; (focus (first | (exact Eq.refl _) | (simp [SrcE.len]; done))))
          trivial
        · skip
          have c4 := h4
          exact absurd (show true = false from h4) (by decide)
set_option maxRecDepth 100000 in
set_option maxHeartbeats 4000000 in
theorem cf_putFork0O {p n : List Bool} {x o : List UInt8} {l r : Tr} (hp : p.length ≤ 32) (hn : n.length ≤ 32) (h1 : ¬ p <+: n) (h2 : ¬ n <+: p) (hb : cpre p n ++ [false] <+: n) : Cf Try.prog 25 [] [nodeE p x l r, netE n, .s o] [] (.rp (Tr.node (cpre p n) [] (.node n o .nil .nil) (.node p x l r)).c) := by
  have hne : p ≠ n := fun e => h1 (e ▸ List.prefix_refl p)
  have hl : (cpre p n).length < 32 := by have := hb.length_le; simp at this; omega
  have hd : decide (p <+: n) = false := decide_eq_false h1
  have he : decide (n <+: p) = false := decide_eq_false h2
  refine Cf.introR tabT {} (DR _ _ _ tabT {}) (by kernel_rfl) tab_ok Try.func25 Try.ntmps25 rfl rfl (DR_ok tab_ok (by kernel_rfl)) (by kernel_rfl) ?_
  refine ⟨fun h1 => ?_, fun h1 => ?_⟩
  · skip
    have c1 := h1
    exact absurd (show false = true from h1) (by decide)
  · skip
    (simp only [Int.reduceToNat, UInt8.reduceOfNat] at h1)
    have c1 := h1
    refine ⟨[0, 1, 3, 7, 0, 31, 63], by kernel_rfl, ?_⟩
    refine ⟨fun h2 => ?_, fun h2 => ?_⟩
    · skip
      have c2 := h2
      (simp only [Bool.not_eq_true', Bool.not_eq_false', Bool.not_true, Bool.not_false, Bool.and_eq_true, Bool.or_eq_true, Bool.and_eq_false_iff, Bool.or_eq_false_iff, Bool.not_not, beq_true, beq_false, decide_eq_true_eq, decide_eq_false_iff_not] at c2)
      exact absurd (adr_eqB hp hne) (by rw [h2]; decide)
    · skip
      have c2 := h2
      (simp only [Bool.not_eq_true', Bool.not_eq_false', Bool.not_true, Bool.not_false, Bool.and_eq_true, Bool.or_eq_true, Bool.and_eq_false_iff, Bool.or_eq_false_iff, Bool.not_not, beq_true, beq_false, decide_eq_true_eq, decide_eq_false_iff_not] at c2)
      refine ⟨[0, 1, 3, 7, 0, 31, 63], by kernel_rfl, ?_⟩
      refine ⟨_, _, _, _, (hd ▸ cf_nHolds hp hn), ?_⟩
      repeat (refine Ob.mk ?_ ?_; focus ((exact Eq.refl _)))
      refine ⟨fun h3 => ?_, fun h3 => ?_⟩
      · skip
        have c3 := h3
        exact absurd (show false = true from h3) (by decide)
      · skip
        (simp only [Int.reduceToNat, UInt8.reduceOfNat] at h3)
        have c3 := h3
        refine ⟨[0, 0, 2, 6, 14, 31, 63], by kernel_rfl, ?_⟩
        refine ⟨_, _, _, _, (he ▸ cf_nHolds hn hp), ?_⟩
        repeat (refine Ob.mk ?_ ?_; focus ((exact Eq.refl _)))
        refine ⟨fun h4 => ?_, fun h4 => ?_⟩
        · skip
          have c4 := h4
          exact absurd (show false = true from h4) (by decide)
        · skip
          (simp only [Int.reduceToNat, UInt8.reduceOfNat] at h4)
          have c4 := h4
          refine ⟨[0, 0, 2, 6, 14, 0, 62, 126, 254, 254, 511, 1535, 3583], by kernel_rfl, ?_⟩
          refine ⟨_, _, _, _, (cf_nJoin hp hn), ?_⟩
          repeat (refine Ob.mk ?_ ?_; focus ((exact Eq.refl _)))
          refine ⟨[0, 1, 3, 7, 0, 31, 63], by kernel_rfl, ?_⟩
          refine ⟨_, _, _, _, (cf_side hl (bit_of hb)), ?_⟩
          repeat (refine Ob.mk ?_ ?_; focus ((exact Eq.refl _)))
          refine ⟨[0, 0, 0, 0, 8, 0, 0, 1, 129, 419, 931, 4, 2052, 8191, 16383], by kernel_rfl, ?_⟩
          repeat (refine Ob.mk ?_ ?_; (focus (first | (exact Eq.refl _) | (simp [SrcE.len]; done))))
          trivial
set_option maxRecDepth 100000 in
set_option maxHeartbeats 4000000 in
theorem cf_putLow1O {p n : List Bool} {x o : List UInt8} {l r : Tr} (hp : p.length ≤ 32) (hn : n.length ≤ 32) {m : Tr} (hb : p ++ [true] <+: n) (ih : Cf Try.prog 25 [] [.rp r.c, netE n, .s o] [] (.rp m.c)) : Cf Try.prog 25 [] [nodeE p x l r, netE n, .s o] [] (.rp (Tr.node p x l m).c) := by
  have hne : p ≠ n := pre_ne hb
  have hl : p.length < 32 := by have := hb.length_le; simp at this; omega
  have hd : decide (p <+: n) = true := decide_eq_true (pre_of hb)
  refine Cf.introR tabT {} (DR _ _ _ tabT {}) (by kernel_rfl) tab_ok Try.func25 Try.ntmps25 rfl rfl (DR_ok tab_ok (by kernel_rfl)) (by kernel_rfl) ?_
  refine ⟨fun h1 => ?_, fun h1 => ?_⟩
  · skip
    have c1 := h1
    exact absurd (show false = true from h1) (by decide)
  · skip
    (simp only [Int.reduceToNat, UInt8.reduceOfNat] at h1)
    have c1 := h1
    refine ⟨[0, 1, 3, 7, 0, 31, 63], by kernel_rfl, ?_⟩
    refine ⟨fun h2 => ?_, fun h2 => ?_⟩
    · skip
      have c2 := h2
      (simp only [Bool.not_eq_true', Bool.not_eq_false', Bool.not_true, Bool.not_false, Bool.and_eq_true, Bool.or_eq_true, Bool.and_eq_false_iff, Bool.or_eq_false_iff, Bool.not_not, beq_true, beq_false, decide_eq_true_eq, decide_eq_false_iff_not] at c2)
      exact absurd (adr_eqB hp hne) (by rw [h2]; decide)
    · skip
      have c2 := h2
      (simp only [Bool.not_eq_true', Bool.not_eq_false', Bool.not_true, Bool.not_false, Bool.and_eq_true, Bool.or_eq_true, Bool.and_eq_false_iff, Bool.or_eq_false_iff, Bool.not_not, beq_true, beq_false, decide_eq_true_eq, decide_eq_false_iff_not] at c2)
      refine ⟨[0, 1, 3, 7, 0, 31, 63], by kernel_rfl, ?_⟩
      refine ⟨_, _, _, _, (hd ▸ cf_nHolds hp hn), ?_⟩
      repeat (refine Ob.mk ?_ ?_; focus ((exact Eq.refl _)))
      refine ⟨fun h3 => ?_, fun h3 => ?_⟩
      · skip
        (simp only [Int.reduceToNat, UInt8.reduceOfNat] at h3)
        have c3 := h3
        refine ⟨[0, 1, 3, 7, 0, 31, 63], by kernel_rfl, ?_⟩
        refine ⟨_, _, _, _, (cf_side hl (bit_of hb)), ?_⟩
        repeat (refine Ob.mk ?_ ?_; focus ((exact Eq.refl _)))
        refine ⟨[0, 0, 0, 2, 10, 30, 62, 0, 0, 510, 0, 2047, 4095], by kernel_rfl, ?_⟩
        repeat (refine Ob.mk ?_ ?_; (focus (((simp [SrcE.len]; done)))))
        refine ⟨_, _, _, _, ih, ?_⟩
        repeat (refine Ob.mk ?_ ?_; (focus (first | (exact Eq.refl _) | (simp [SrcE.len]; done))))
        trivial
      · skip
        have c3 := h3
        exact absurd (show true = false from h3) (by decide)
set_option maxRecDepth 100000 in
set_option maxHeartbeats 4000000 in
theorem cf_putTop1O {p n : List Bool} {x o : List UInt8} {l r : Tr} (hp : p.length ≤ 32) (hn : n.length ≤ 32) (hb : n ++ [true] <+: p) : Cf Try.prog 25 [] [nodeE p x l r, netE n, .s o] [] (.rp (Tr.node n o .nil (.node p x l r)).c) := by
  have hne : p ≠ n := fun e => pre_ne hb e.symm
  have hl : n.length < 32 := by have := hb.length_le; simp at this; omega
  have hd : decide (p <+: n) = false := decide_eq_false (fun h => hne (pre_antisymm h (pre_of hb)))
  have he : decide (n <+: p) = true := decide_eq_true (pre_of hb)
  refine Cf.introR tabT {} (DR _ _ _ tabT {}) (by kernel_rfl) tab_ok Try.func25 Try.ntmps25 rfl rfl (DR_ok tab_ok (by kernel_rfl)) (by kernel_rfl) ?_
  refine ⟨fun h1 => ?_, fun h1 => ?_⟩
  · skip
    have c1 := h1
    exact absurd (show false = true from h1) (by decide)
  · skip
    (simp only [Int.reduceToNat, UInt8.reduceOfNat] at h1)
    have c1 := h1
    refine ⟨[0, 1, 3, 7, 0, 31, 63], by kernel_rfl, ?_⟩
    refine ⟨fun h2 => ?_, fun h2 => ?_⟩
    · skip
      have c2 := h2
      (simp only [Bool.not_eq_true', Bool.not_eq_false', Bool.not_true, Bool.not_false, Bool.and_eq_true, Bool.or_eq_true, Bool.and_eq_false_iff, Bool.or_eq_false_iff, Bool.not_not, beq_true, beq_false, decide_eq_true_eq, decide_eq_false_iff_not] at c2)
      exact absurd (adr_eqB hp hne) (by rw [h2]; decide)
    · skip
      have c2 := h2
      (simp only [Bool.not_eq_true', Bool.not_eq_false', Bool.not_true, Bool.not_false, Bool.and_eq_true, Bool.or_eq_true, Bool.and_eq_false_iff, Bool.or_eq_false_iff, Bool.not_not, beq_true, beq_false, decide_eq_true_eq, decide_eq_false_iff_not] at c2)
      refine ⟨[0, 1, 3, 7, 0, 31, 63], by kernel_rfl, ?_⟩
      refine ⟨_, _, _, _, (hd ▸ cf_nHolds hp hn), ?_⟩
      repeat (refine Ob.mk ?_ ?_; focus ((exact Eq.refl _)))
      refine ⟨fun h3 => ?_, fun h3 => ?_⟩
      · skip
        have c3 := h3
        exact absurd (show false = true from h3) (by decide)
      · skip
        (simp only [Int.reduceToNat, UInt8.reduceOfNat] at h3)
        have c3 := h3
        refine ⟨[0, 0, 2, 6, 14, 31, 63], by kernel_rfl, ?_⟩
        refine ⟨_, _, _, _, (he ▸ cf_nHolds hn hp), ?_⟩
        repeat (refine Ob.mk ?_ ?_; focus ((exact Eq.refl _)))
        refine ⟨fun h4 => ?_, fun h4 => ?_⟩
        · skip
          (simp only [Int.reduceToNat, UInt8.reduceOfNat] at h4)
          have c4 := h4
          refine ⟨[0, 0, 0, 4, 12, 28, 62, 0, 1, 257, 1023, 2047], by kernel_rfl, ?_⟩
          refine ⟨_, _, _, _, (cf_side hl (bit_of hb)), ?_⟩
          repeat (refine Ob.mk ?_ ?_; (focus (first | (exact Eq.refl _) | (simp [SrcE.len]; done))))
          trivial
        · skip
          have c4 := h4
          exact absurd (show true = false from h4) (by decide)
set_option maxRecDepth 100000 in
set_option maxHeartbeats 4000000 in
theorem cf_putFork1O {p n : List Bool} {x o : List UInt8} {l r : Tr} (hp : p.length ≤ 32) (hn : n.length ≤ 32) (h1 : ¬ p <+: n) (h2 : ¬ n <+: p) (hb : cpre p n ++ [true] <+: n) : Cf Try.prog 25 [] [nodeE p x l r, netE n, .s o] [] (.rp (Tr.node (cpre p n) [] (.node p x l r) (.node n o .nil .nil)).c) := by
  have hne : p ≠ n := fun e => h1 (e ▸ List.prefix_refl p)
  have hl : (cpre p n).length < 32 := by have := hb.length_le; simp at this; omega
  have hd : decide (p <+: n) = false := decide_eq_false h1
  have he : decide (n <+: p) = false := decide_eq_false h2
  refine Cf.introR tabT {} (DR _ _ _ tabT {}) (by kernel_rfl) tab_ok Try.func25 Try.ntmps25 rfl rfl (DR_ok tab_ok (by kernel_rfl)) (by kernel_rfl) ?_
  refine ⟨fun h1 => ?_, fun h1 => ?_⟩
  · skip
    have c1 := h1
    exact absurd (show false = true from h1) (by decide)
  · skip
    (simp only [Int.reduceToNat, UInt8.reduceOfNat] at h1)
    have c1 := h1
    refine ⟨[0, 1, 3, 7, 0, 31, 63], by kernel_rfl, ?_⟩
    refine ⟨fun h2 => ?_, fun h2 => ?_⟩
    · skip
      have c2 := h2
      (simp only [Bool.not_eq_true', Bool.not_eq_false', Bool.not_true, Bool.not_false, Bool.and_eq_true, Bool.or_eq_true, Bool.and_eq_false_iff, Bool.or_eq_false_iff, Bool.not_not, beq_true, beq_false, decide_eq_true_eq, decide_eq_false_iff_not] at c2)
      exact absurd (adr_eqB hp hne) (by rw [h2]; decide)
    · skip
      have c2 := h2
      (simp only [Bool.not_eq_true', Bool.not_eq_false', Bool.not_true, Bool.not_false, Bool.and_eq_true, Bool.or_eq_true, Bool.and_eq_false_iff, Bool.or_eq_false_iff, Bool.not_not, beq_true, beq_false, decide_eq_true_eq, decide_eq_false_iff_not] at c2)
      refine ⟨[0, 1, 3, 7, 0, 31, 63], by kernel_rfl, ?_⟩
      refine ⟨_, _, _, _, (hd ▸ cf_nHolds hp hn), ?_⟩
      repeat (refine Ob.mk ?_ ?_; focus ((exact Eq.refl _)))
      refine ⟨fun h3 => ?_, fun h3 => ?_⟩
      · skip
        have c3 := h3
        exact absurd (show false = true from h3) (by decide)
      · skip
        (simp only [Int.reduceToNat, UInt8.reduceOfNat] at h3)
        have c3 := h3
        refine ⟨[0, 0, 2, 6, 14, 31, 63], by kernel_rfl, ?_⟩
        refine ⟨_, _, _, _, (he ▸ cf_nHolds hn hp), ?_⟩
        repeat (refine Ob.mk ?_ ?_; focus ((exact Eq.refl _)))
        refine ⟨fun h4 => ?_, fun h4 => ?_⟩
        · skip
          have c4 := h4
          exact absurd (show false = true from h4) (by decide)
        · skip
          (simp only [Int.reduceToNat, UInt8.reduceOfNat] at h4)
          have c4 := h4
          refine ⟨[0, 0, 2, 6, 14, 0, 62, 126, 254, 254, 511, 1535, 3583], by kernel_rfl, ?_⟩
          refine ⟨_, _, _, _, (cf_nJoin hp hn), ?_⟩
          repeat (refine Ob.mk ?_ ?_; focus ((exact Eq.refl _)))
          refine ⟨[0, 1, 3, 7, 0, 31, 63], by kernel_rfl, ?_⟩
          refine ⟨_, _, _, _, (cf_side hl (bit_of hb)), ?_⟩
          repeat (refine Ob.mk ?_ ?_; focus ((exact Eq.refl _)))
          refine ⟨[0, 0, 0, 0, 8, 0, 0, 1, 129, 419, 931, 4, 2052, 8191, 16383], by kernel_rfl, ?_⟩
          repeat (refine Ob.mk ?_ ?_; (focus (first | (exact Eq.refl _) | (simp [SrcE.len]; done))))
          trivial
theorem cf_put : ∀ {T : Tr} {n : List Bool} {o : List UInt8}, T.wf → n.length ≤ 32 → Cf Try.prog 25 [] [.rp T.c, netE n, .s o] [] (.rp (putT T n o).c)
  | .nil, n, o, _, hn => cf_putNilO
  | .node p x l r, n, o, w, hn => by
    obtain ⟨hp, ul, ur, hx, wl, wr⟩ := w
    unfold putT
    split
    · rename_i e; subst e; exact cf_putEqO
    rename_i hne
    split
    · rename_i e
      have b := pre_bit e hne
      cases hb : bitAt n p.length <;> rw [hb] at b
      · exact cf_putLow0O hp hn b (cf_put wl hn)
      · exact cf_putLow1O hp hn b (cf_put wr hn)
    rename_i h1
    split
    · rename_i e
      have b := pre_bit e (Ne.symm hne)
      cases hb : bitAt p n.length <;> rw [hb] at b
      · exact cf_putTop0O hp hn b
      · exact cf_putTop1O hp hn b
    · rename_i h2
      obtain ⟨a, b, c⟩ := cpre_bits h1 h2
      cases hb : bitAt n (cpre p n).length <;> rw [hb] at b
      · exact cf_putFork0O hp hn h1 h2 b
      · exact cf_putFork1O hp hn h1 h2 b
end Go.Proofs.Ytcdoobkaobiacaa
