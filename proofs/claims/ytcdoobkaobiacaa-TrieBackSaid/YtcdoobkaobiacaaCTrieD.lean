/- Tries: contracts of strip, DropOwner, Drop's and DropOwner's tests. -/
import Derived.Test.YtcdoobkaobiacaaCTrieU
import Derived.Test.YtcdoobkaobiacaaTrieD
namespace Go.Proofs.Ytcdoobkaobiacaa
open Go.RowKit Tr
set_option linter.unusedVariables false
set_option linter.unusedSimpArgs false

theorem strip_keep {q : Bool} {p : List Bool} {o : List UInt8} {l r : Tr} (h : (!decide ((bif q then [] else o) = []) || (!l.c.isNone && !r.c.isNone)) = true) : stripN q p o l r = .node p (bif q then [] else o) l r := by
  unfold stripN; rw [h]; rfl
theorem strip_left {q : Bool} {p : List Bool} {o : List UInt8} {l r : Tr} (h : (!decide ((bif q then [] else o) = []) || (!l.c.isNone && !r.c.isNone)) = false) (h2 : (!l.c.isNone) = true) : stripN q p o l r = l := by
  unfold stripN; rw [h, h2]; rfl
theorem strip_right {q : Bool} {p : List Bool} {o : List UInt8} {l r : Tr} (h : (!decide ((bif q then [] else o) = []) || (!l.c.isNone && !r.c.isNone)) = false) (h2 : (!l.c.isNone) = false) : stripN q p o l r = r := by
  unfold stripN; rw [h, h2]; rfl
set_option maxRecDepth 100000 in
set_option maxHeartbeats 4000000 in
theorem cf_isNetO {p n : List Bool} {o : List UInt8} {l r : Tr} : Cf Try.prog 29 [] [nodeE p o l r, .pp [.u32 (adr n), .i (n.length : Int)] 0] [] (.b (decide (adr p = adr n) && decide ((p.length : Int) = (n.length : Int)))) := by
  refine Cf.introR tabT {} (DR _ _ _ tabT {}) (by kernel_rfl) tab_ok Try.func29 Try.ntmps29 rfl rfl (DR_ok tab_ok (by kernel_rfl)) (by kernel_rfl) ?_
  refine ⟨[0, 1, 3, 7, 0, 31, 63], by kernel_rfl, ?_⟩
  repeat (refine Ob.mk ?_ ?_; focus ((exact Eq.refl _)))
  trivial
theorem cf_isNet {p n : List Bool} {o : List UInt8} {l r : Tr} (hp : p.length ≤ 32) : Cf Try.prog 29 [] [nodeE p o l r, .pp [.u32 (adr n), .i (n.length : Int)] 0] [] (.b (decide (p = n))) := by
  have e : (decide (adr p = adr n) && decide ((p.length : Int) = (n.length : Int))) = decide (p = n) := by
    by_cases h : p = n
    · subst h; simp
    · rw [adr_eqB hp h, decide_eq_false h]
  rw [← e]; exact cf_isNetO
set_option maxRecDepth 100000 in
set_option maxHeartbeats 4000000 in
theorem cf_stripNilNetO {cs : List EV} : Cf Try.prog 28 [] [.v (.pointer none), .fn 29 [.pp cs 0]] [] (.v (.pointer none)) := by
  refine Cf.introR tabT {} (DR _ _ _ tabT {}) (by kernel_rfl) tab_ok Try.func28 Try.ntmps28 rfl rfl (DR_ok tab_ok (by kernel_rfl)) (by kernel_rfl) ?_
  refine ⟨fun h1 => ?_, fun h1 => ?_⟩
  · skip
    (simp only [Int.reduceToNat, UInt8.reduceOfNat] at h1)
    have c1 := h1
    repeat (refine Ob.mk ?_ ?_; focus ((exact Eq.refl _)))
    trivial
  · skip
    have c1 := h1
    exact absurd (show true = false from h1) (by decide)
set_option maxRecDepth 100000 in
set_option maxHeartbeats 4000000 in
theorem cf_stripNetO {cs : List EV} {p : List Bool} {o : List UInt8} {l r l' r' : Tr} {q : Bool} (hf : Cf Try.prog 29 [] [nodeE p o l r, .pp cs 0] [] (.b q)) (il : Cf Try.prog 28 [] [.rp l.c, .fn 29 [.pp cs 0]] [] (.rp l'.c)) (ir : Cf Try.prog 28 [] [.rp r.c, .fn 29 [.pp cs 0]] [] (.rp r'.c)) : Cf Try.prog 28 [] [nodeE p o l r, .fn 29 [.pp cs 0]] [] (.rp (stripN q p o l' r').c) := by
  refine Cf.introR tabT {} (DR _ _ _ tabT {}) (by kernel_rfl) tab_ok Try.func28 Try.ntmps28 rfl rfl (DR_ok tab_ok (by kernel_rfl)) (by kernel_rfl) ?_
  refine ⟨fun h1 => ?_, fun h1 => ?_⟩
  · skip
    have c1 := h1
    exact absurd (show false = true from h1) (by decide)
  · skip
    (simp only [Int.reduceToNat, UInt8.reduceOfNat] at h1)
    have c1 := h1
    refine ⟨[0, 1, 3, 7, 0, 16, 48, 112, 0, 256, 768, 1792, 3840, 0, 16128, 0, 32768, 98304, 229376, 491520, 0, 2096896, 4194048, 8388607, 16777215, 33554431], by kernel_rfl, ?_⟩
    repeat (refine Ob.mk ?_ ?_; focus (omega))
    refine ⟨_, _, _, _, il, ?_⟩
    repeat (refine Ob.mk ?_ ?_; focus (first | (exact Eq.refl _) | omega))
    refine ⟨_, _, _, _, ir, ?_⟩
    repeat (refine Ob.mk ?_ ?_; focus ((exact Eq.refl _)))
    refine ⟨_, _, _, _, hf, ?_⟩
    repeat (refine Ob.mk ?_ ?_; focus ((exact Eq.refl _)))
    refine ⟨fun h2 => ?_, fun h2 => ?_⟩
    · skip
      have c2 := h2
      repeat (refine Ob.mk ?_ ?_; (focus (first | (intro _; exact Eq.refl _) | omega | (exact fun hg => hg) | (intro hg; ((intro hq; exact and_i hg (beq_t hq)))))))
      refine ⟨fun h3 => ?_, fun h3 => ?_⟩
      · skip
        (simp only [Int.reduceToNat, UInt8.reduceOfNat] at h3)
        have c3 := h3
        (simp only [Bool.not_eq_true', Bool.not_eq_false', Bool.not_true, Bool.not_false, Bool.and_eq_true, Bool.or_eq_true, Bool.and_eq_false_iff, Bool.or_eq_false_iff, Bool.not_not, beq_true, beq_false, decide_eq_true_eq, decide_eq_false_iff_not] at c3)
        have hs : stripN q p o l' r' = .node p (bif q then [] else o) l' r' := strip_keep (by rw [h2]; exact h3)
        repeat (refine Ob.mk ?_ ?_; (focus (((rw [hs, h2]; exact Eq.refl _)))))
        trivial
      · skip
        (simp only [Int.reduceToNat, UInt8.reduceOfNat] at h3)
        have c3 := h3
        (simp only [Bool.not_eq_true', Bool.not_eq_false', Bool.not_true, Bool.not_false, Bool.and_eq_true, Bool.or_eq_true, Bool.and_eq_false_iff, Bool.or_eq_false_iff, Bool.not_not, beq_true, beq_false, decide_eq_true_eq, decide_eq_false_iff_not] at c3)
        have hs : (!decide ((bif q then [] else o) = []) || (!l'.c.isNone && !r'.c.isNone)) = false := (by rw [h2]; exact h3)
        repeat (refine Ob.mk ?_ ?_; focus (omega))
        refine ⟨fun h4 => ?_, fun h4 => ?_⟩
        · skip
          have c4 := h4
          (simp only [Bool.not_eq_true', Bool.not_eq_false', Bool.not_true, Bool.not_false, Bool.and_eq_true, Bool.or_eq_true, Bool.and_eq_false_iff, Bool.or_eq_false_iff, Bool.not_not, beq_true, beq_false, decide_eq_true_eq, decide_eq_false_iff_not] at c4)
          have hs2 := strip_left (p := p) hs h4
          repeat (refine Ob.mk ?_ ?_; (focus (first | (rw [hs2]; done) | omega)))
          trivial
        · skip
          have c4 := h4
          (simp only [Bool.not_eq_true', Bool.not_eq_false', Bool.not_true, Bool.not_false, Bool.and_eq_true, Bool.or_eq_true, Bool.and_eq_false_iff, Bool.or_eq_false_iff, Bool.not_not, beq_true, beq_false, decide_eq_true_eq, decide_eq_false_iff_not] at c4)
          have hs2 := strip_right (p := p) hs h4
          repeat (refine Ob.mk ?_ ?_; (focus (first | (rw [hs2]; done) | omega)))
          trivial
    · skip
      have c2 := h2
      repeat (refine Ob.mk ?_ ?_; (focus (first | omega | (exact fun hg => beq_f hg) | (exact fun hg => hg) | (intro hg; ((intro hq; exact and_i hg (beq_t hq)))))))
      refine ⟨fun h5 => ?_, fun h5 => ?_⟩
      · skip
        have c5 := h5
        (simp only [Bool.not_eq_true', Bool.not_eq_false', Bool.not_true, Bool.not_false, Bool.and_eq_true, Bool.or_eq_true, Bool.and_eq_false_iff, Bool.or_eq_false_iff, Bool.not_not, beq_true, beq_false, decide_eq_true_eq, decide_eq_false_iff_not] at c5)
        have hs : stripN q p o l' r' = .node p (bif q then [] else o) l' r' := strip_keep (by rw [h2]; exact h5)
        repeat (refine Ob.mk ?_ ?_; (focus (((rw [hs, h2]; exact Eq.refl _)))))
        trivial
      · skip
        have c5 := h5
        (simp only [Bool.not_eq_true', Bool.not_eq_false', Bool.not_true, Bool.not_false, Bool.and_eq_true, Bool.or_eq_true, Bool.and_eq_false_iff, Bool.or_eq_false_iff, Bool.not_not, beq_true, beq_false, decide_eq_true_eq, decide_eq_false_iff_not] at c5)
        have hs : (!decide ((bif q then [] else o) = []) || (!l'.c.isNone && !r'.c.isNone)) = false := (by rw [h2]; exact h5)
        repeat (refine Ob.mk ?_ ?_; focus (omega))
        refine ⟨fun h6 => ?_, fun h6 => ?_⟩
        · skip
          have c6 := h6
          (simp only [Bool.not_eq_true', Bool.not_eq_false', Bool.not_true, Bool.not_false, Bool.and_eq_true, Bool.or_eq_true, Bool.and_eq_false_iff, Bool.or_eq_false_iff, Bool.not_not, beq_true, beq_false, decide_eq_true_eq, decide_eq_false_iff_not] at c6)
          have hs2 := strip_left (p := p) hs h6
          repeat (refine Ob.mk ?_ ?_; (focus (first | (rw [hs2]; done) | omega)))
          trivial
        · skip
          have c6 := h6
          (simp only [Bool.not_eq_true', Bool.not_eq_false', Bool.not_true, Bool.not_false, Bool.and_eq_true, Bool.or_eq_true, Bool.and_eq_false_iff, Bool.or_eq_false_iff, Bool.not_not, beq_true, beq_false, decide_eq_true_eq, decide_eq_false_iff_not] at c6)
          have hs2 := strip_right (p := p) hs h6
          repeat (refine Ob.mk ?_ ?_; (focus (first | (rw [hs2]; done) | omega)))
          trivial
theorem cf_stripNet {n : List Bool} : ∀ {T : Tr}, T.wf → Cf Try.prog 28 [] [.rp T.c, .fn 29 [.pp [.u32 (adr n), .i (n.length : Int)] 0]] [] (.rp (stripT (fun p _ => decide (p = n)) T).c)
  | .nil, _ => cf_stripNilNetO
  | .node p o l r, w => cf_stripNetO (cf_isNet w.1) (cf_stripNet w.2.2.2.2.1) (cf_stripNet w.2.2.2.2.2)
end Go.Proofs.Ytcdoobkaobiacaa
