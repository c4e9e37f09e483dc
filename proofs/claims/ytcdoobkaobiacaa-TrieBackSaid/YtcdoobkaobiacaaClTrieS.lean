/- TrieSmall, TrieAny: the walks of the statements' functions. -/
import Derived.Test.YtcdoobkaobiacaaCTrieU
namespace Go.Proofs.Ytcdoobkaobiacaa
open Go.RowKit Tr
set_option linter.unusedVariables false
set_option linter.unusedSimpArgs false

theorem small_fin (l : List RawS) (k : Nat) : (mpL l k).length = 0 ∧ (trL l k).flat.length = 0 ∨ (trL l k).flat.length + 1 ≤ 2 * (mpL l k).length ∧ (mpL l k).length ≤ (trL l k).flat.length := by
  have R := relL l k
  have a := ownN_le (trL l k)
  have b := flat_own R.wf
  rw [R.len] at a b
  by_cases h : trL l k = .nil
  · rw [h] at a ⊢
    have z : Tr.nil.flat.length = 0 := rfl
    rw [z] at a ⊢
    exact .inl ⟨by omega, rfl⟩
  · exact .inr ⟨b.2 h, a⟩
theorem small_b {a b : Nat} (h : a = 0 ∧ b = 0 ∨ b + 1 ≤ 2 * a ∧ a ≤ b) : (true && (decide ((a : Int) = 0) && decide ((b : Int) = 0) || decide ((b : Int) ≤ 2 * (a : Int) - 1) && decide ((a : Int) ≤ (b : Int)))) = true := by
  rcases h with ⟨rfl, rfl⟩ | ⟨h1, h2⟩
  · rfl
  · rw [decide_eq_true (by omega : (b : Int) ≤ 2 * (a : Int) - 1), decide_eq_true (by omega : (a : Int) ≤ (b : Int))]
    simp
set_option maxRecDepth 100000 in
set_option maxHeartbeats 4000000 in
theorem cf_ndEqO {L : List Nd} (hn : L.length ≤ 1000000) : Cf Try.prog 16 [] [nodesE L, nodesE L] [] (.b true) := by
  refine Cf.introR tabT {} (DR _ _ _ tabT {}) (by kernel_rfl) tab_ok Try.func16 Try.ntmps16 rfl rfl (DR_ok tab_ok (by kernel_rfl)) (by kernel_rfl) ?_
  refine ⟨fun h1 => ?_, fun h1 => ?_⟩
  · skip
    (simp only [Int.reduceToNat, UInt8.reduceOfNat] at h1)
    have c1 := h1
    (simp only [Bool.not_eq_true', Bool.not_eq_false', Bool.not_true, Bool.not_false, Bool.and_eq_true, Bool.or_eq_true, Bool.and_eq_false_iff, Bool.or_eq_false_iff, Bool.not_not, beq_true, beq_false, decide_eq_true_eq, decide_eq_false_iff_not] at c1)
    exact absurd h1 (by simp)
  · skip
    (simp only [Int.reduceToNat, UInt8.reduceOfNat] at h1)
    have c1 := h1
    (simp only [Bool.not_eq_true', Bool.not_eq_false', Bool.not_true, Bool.not_false, Bool.and_eq_true, Bool.or_eq_true, Bool.and_eq_false_iff, Bool.or_eq_false_iff, Bool.not_not, beq_true, beq_false, decide_eq_true_eq, decide_eq_false_iff_not] at c1)
    refine ⟨Nat, fun i => ⟨[(0, nodesE L), (1, nodesE L), (12, .i (L.length : Int)), (13, .i (i : Int))], []⟩, fun i => i ≤ L.length, fun i => L.length - i, 0, by omega, ?_, fun i hx1 => ?_⟩
    · skip
      repeat (refine Ob.mk ?_ ?_; (focus (first | (exact Eq.refl _) | (intro hg; ((intro hq; ((simp_all; done))))))))
      trivial
    refine ⟨fun h2 => ?_, fun h2 => ?_⟩
    · skip
      have c2 := h2
      (simp only [Bool.not_eq_true', Bool.not_eq_false', Bool.not_true, Bool.not_false, Bool.and_eq_true, Bool.or_eq_true, Bool.and_eq_false_iff, Bool.or_eq_false_iff, Bool.not_not, beq_true, beq_false, decide_eq_true_eq, decide_eq_false_iff_not] at c2)
      refine ⟨[0, 0, 3, 7, 0, 0, 48, 112, 255], by kernel_rfl, ?_⟩
      repeat (refine Ob.mk ?_ ?_; focus (omega))
      refine ⟨fun h3 => ?_, fun h3 => ?_⟩
      · skip
        (simp only [Int.reduceToNat, UInt8.reduceOfNat] at h3)
        have c3 := h3
        (simp only [Bool.not_eq_true', Bool.not_eq_false', Bool.not_true, Bool.not_false, Bool.and_eq_true, Bool.or_eq_true, Bool.and_eq_false_iff, Bool.or_eq_false_iff, Bool.not_not, beq_true, beq_false, decide_eq_true_eq, decide_eq_false_iff_not] at c3)
        exact absurd h3 (by simp)
      · skip
        (simp only [Int.reduceToNat, UInt8.reduceOfNat] at h3)
        have c3 := h3
        (simp only [Bool.not_eq_true', Bool.not_eq_false', Bool.not_true, Bool.not_false, Bool.and_eq_true, Bool.or_eq_true, Bool.and_eq_false_iff, Bool.or_eq_false_iff, Bool.not_not, beq_true, beq_false, decide_eq_true_eq, decide_eq_false_iff_not] at c3)
        repeat (refine Ob.mk ?_ ?_; focus (omega))
        refine ⟨i + 1, (by omega), (by (simp only [SrcE.len, Nat.zero_add, List.length_append, List.length_cons, List.length_nil]; omega)), ?_⟩
        repeat (refine Ob.mk ?_ ?_; (focus (first | (exact Eq.refl _) | (intro hg; ((intro hq; ((simp_all; done))))))))
        trivial
    · skip
      have c2 := h2
      (simp only [Bool.not_eq_true', Bool.not_eq_false', Bool.not_true, Bool.not_false, Bool.and_eq_true, Bool.or_eq_true, Bool.and_eq_false_iff, Bool.or_eq_false_iff, Bool.not_not, beq_true, beq_false, decide_eq_true_eq, decide_eq_false_iff_not] at c2)
      repeat (refine Ob.mk ?_ ?_; focus ((exact Eq.refl _)))
      trivial
def anyA (l : List RawS) : Nat → Tr
  | 0 => .nil
  | i + 1 => putT (anyA l i) (rnet (rAt l i)) [120]
def anyB (l : List RawS) (n : Nat) : Nat → Tr
  | 0 => .nil
  | i + 1 => putT (anyB l n i) (rnet (rAt l (n - 1 - i))) [120]
theorem anyA_wf (l : List RawS) : ∀ i, (anyA l i).wf
  | 0 => trivial
  | i + 1 => putT_wf (anyA_wf l i) netP_len (by decide)
theorem anyB_wf (l : List RawS) (n : Nat) : ∀ i, (anyB l n i).wf
  | 0 => trivial
  | i + 1 => putT_wf (anyB_wf l n i) netP_len (by decide)
theorem anyA_len (l : List RawS) : ∀ i, (anyA l i).flat.length ≤ 2 * i
  | 0 => Nat.le_refl _
  | i + 1 => by have := anyA_len l i; have := putT_len (T := anyA l i) (n := rnet (rAt l i)) (o := [120]); show (putT _ _ _).flat.length ≤ _; omega
theorem anyB_len (l : List RawS) (n : Nat) : ∀ i, (anyB l n i).flat.length ≤ 2 * i
  | 0 => Nat.le_refl _
  | i + 1 => by have := anyB_len l n i; have := putT_len (T := anyB l n i) (n := rnet (rAt l (n - 1 - i))) (o := [120]); show (putT _ _ _).flat.length ≤ _; omega
theorem anyA_has (l : List RawS) : ∀ i m y, (anyA l i).has m y ↔ y = [120] ∧ ∃ j, j < i ∧ m = rnet (rAt l j)
  | 0, m, y => ⟨fun h => h.elim, fun ⟨_, j, h, _⟩ => absurd h (Nat.not_lt_zero _)⟩
  | i + 1, m, y => by
    show (putT _ _ _).has m y ↔ _
    rw [putT_has (anyA_wf l i) (by decide), anyA_has l i m y]
    constructor
    · rintro (⟨a, b⟩ | ⟨_, b, j, h, e⟩)
      · exact ⟨b, i, by omega, a⟩
      · exact ⟨b, j, by omega, e⟩
    · rintro ⟨b, j, h, e⟩
      by_cases k : m = rnet (rAt l i)
      · exact .inl ⟨k, b⟩
      · refine .inr ⟨k, b, j, ?_, e⟩
        rcases Nat.lt_or_ge j i with q | q
        · exact q
        · have : j = i := by omega
          subst this; exact absurd e k
theorem anyB_has (l : List RawS) (n : Nat) : ∀ i m y, (anyB l n i).has m y ↔ y = [120] ∧ ∃ j, j < i ∧ m = rnet (rAt l (n - 1 - j))
  | 0, m, y => ⟨fun h => h.elim, fun ⟨_, j, h, _⟩ => absurd h (Nat.not_lt_zero _)⟩
  | i + 1, m, y => by
    show (putT _ _ _).has m y ↔ _
    rw [putT_has (anyB_wf l n i) (by decide), anyB_has l n i m y]
    constructor
    · rintro (⟨a, b⟩ | ⟨_, b, j, h, e⟩)
      · exact ⟨b, i, by omega, a⟩
      · exact ⟨b, j, by omega, e⟩
    · rintro ⟨b, j, h, e⟩
      by_cases k : m = rnet (rAt l (n - 1 - i))
      · exact .inl ⟨k, b⟩
      · refine .inr ⟨k, b, j, ?_, e⟩
        rcases Nat.lt_or_ge j i with q | q
        · exact q
        · have : j = i := by omega
          subst this; exact absurd e k
theorem any_same (l : List RawS) (n : Nat) : anyA l n = anyB l n n := by
  refine wf_unique (anyA_wf l n) (anyB_wf l n n) fun m y => ?_
  rw [anyA_has, anyB_has]
  constructor
  · rintro ⟨a, j, h, e⟩; exact ⟨a, n - 1 - j, by omega, by rw [show n - 1 - (n - 1 - j) = j from by omega]; exact e⟩
  · rintro ⟨a, j, h, e⟩; exact ⟨a, n - 1 - j, by omega, e⟩
theorem rAt_take {l : List RawS} {n i : Nat} (h : i < n) : rAt (l.take n) i = rAt l i := by
  show (l.take n).getD i default = l.getD i default
  rw [List.getD_eq_getElem?_getD, List.getElem?_take_of_lt h, ← List.getD_eq_getElem?_getD]
theorem take12 (l : List RawS) : (l.take 12).length = (min (l.length : Int) 12).toNat := by rw [List.length_take]; omega
end Go.Proofs.Ytcdoobkaobiacaa
