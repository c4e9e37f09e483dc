/- TrieLeaves: the walk of the statement's function. -/
import Derived.Test.YtpcagbfnddgjpaaCTrieD
import Derived.Test.YtpcagbfnddgjpaaClTrieS
namespace Go.Proofs.Ytpcagbfnddgjpaa
open Go.RowKit Tr
set_option linter.unusedVariables false
set_option linter.unusedSimpArgs false

theorem lvT_put {L : List Nd} {w : List UInt8} {i : Nat} (h : (!decide ((nAt L i).o = []) && !decide ((nAt L i).o = w)) = true) : lvT L w (i + 1) = putT (lvT L w i) (nAt L i).p (nAt L i).o := by
  rw [lvT, h]; rfl
theorem lvT_skip {L : List Nd} {w : List UInt8} {i : Nat} (h : (!decide ((nAt L i).o = []) && !decide ((nAt L i).o = w)) = false) : lvT L w (i + 1) = lvT L w i := by
  rw [lvT, h]; rfl
theorem mpL_len (l : List RawS) : ∀ i, (mpL l i).length ≤ i
  | 0 => Nat.le_refl _
  | i + 1 => by have := mpL_len l i; show (mpPut _ _ _).length ≤ _; rw [mpPut_len]; split <;> omega
set_option maxRecDepth 100000 in
set_option maxHeartbeats 4000000 in
theorem cf_TrieLeavesO {l : List RawS} {who : Int} {T : Tr} {v : List UInt8} (hl : ∀ x ∈ l, x.inn) (hw : IntIn who) (hT : T = trL l (kMin l)) (hv : v = keyS who) : Cf Try.prog 21 [] [rawsE l, .i who] [] (.b true) := by
  have W : T.wf := by rw [hT]; exact (relL l _).wf
  have hk : kMin l ≤ 16 := Nat.min_le_right _ _
  have hLen : T.flat.length ≤ 32 := by have := trL_len l (kMin l); rw [hT]; omega
  have hM : (mpL l (kMin l)).length ≤ 16 := Nat.le_trans (mpL_len l _) hk
  have hS := leaves_same W v
  have hTree := cf_treeOf hl
  rw [← hT] at hTree
  have hKey := cf_Key hw
  rw [← hv] at hKey
  have hsl := strip_len (fun _ o => decide (o = v)) (T := T)
  have hQ := cf_ndEqO (L := (stripT (fun _ o => decide (o = v)) T).flat) (by omega)
  refine Cf.introR tabT {} (DR _ _ _ tabT {}) (by kernel_rfl) tab_ok Try.func21 Try.ntmps21 rfl rfl (DR_ok tab_ok (by kernel_rfl)) (by kernel_rfl) ?_
  refine ⟨_, _, _, _, hTree, ?_⟩
  repeat (refine Ob.mk ?_ ?_; (focus (first | (exact Eq.refl _) | (intro hg; ((intro hq; ((simp_all; done))))))))
  refine ⟨_, _, _, _, hKey, ?_⟩
  repeat (refine Ob.mk ?_ ?_; focus ((exact Eq.refl _)))
  refine ⟨_, _, _, _, (cf_DropOwnerO (T := T) (v := v) W (by omega)), ?_⟩
  repeat (refine Ob.mk ?_ ?_; (focus (first | (exact Eq.refl _) | (intro hg; ((intro hq; ((simp_all; done))))))))
  refine ⟨Nat, fun i => ⟨[(1, .i who), (5, nodesE T.flat), (6, .mref 1017060), (7, .b true), (8, nodesE (stripT (fun _ o => decide (o = v)) T).flat), (9, .i 0), (10, nodesE (lvT T.flat v i).flat), (28, nodesE T.flat), (29, .i (T.flat.length : Int)), (30, .i (i : Int))], [(1017060, .mp (mpL l (kMin l)))]⟩, fun i => i ≤ T.flat.length, fun i => T.flat.length - i, 0, by omega, ?_, fun i hx1 => ?_⟩
  · skip
    repeat (refine Ob.mk ?_ ?_; (focus (first | (exact Eq.refl _) | (intro hg; ((intro hq; ((simp_all; done))))))))
    trivial
  refine ⟨fun h1 => ?_, fun h1 => ?_⟩
  · skip
    have c1 := h1
    (simp only [Bool.not_eq_true', Bool.not_eq_false', Bool.not_true, Bool.not_false, Bool.and_eq_true, Bool.or_eq_true, Bool.and_eq_false_iff, Bool.or_eq_false_iff, Bool.not_not, beq_true, beq_false, decide_eq_true_eq, decide_eq_false_iff_not] at c1)
    have hi : i < T.flat.length := by omega
    have hl2 := lvT_len T.flat v i
    repeat (refine Ob.mk ?_ ?_; focus (first | assumption | omega))
    refine ⟨[0, 1, 3, 7, 15, 31, 15, 79, 255, 511], by kernel_rfl, ?_⟩
    repeat (refine Ob.mk ?_ ?_; focus ((exact fun hg => hg)))
    refine gx2 (hKey) (fun hk => ⟨fun _ => hk, ?_⟩)
    repeat (refine Ob.mk ?_ ?_; (focus (first | (intro _; exact Eq.refl _) | (exact fun hg => beq_t hg) | (exact fun hg => hg))))
    refine ⟨fun h2 => ?_, fun h2 => ?_⟩
    · skip
      have c2 := h2
      (simp only [Bool.not_eq_true', Bool.not_eq_false', Bool.not_true, Bool.not_false, Bool.and_eq_true, Bool.or_eq_true, Bool.and_eq_false_iff, Bool.or_eq_false_iff, Bool.not_not, beq_true, beq_false, decide_eq_true_eq, decide_eq_false_iff_not] at c2)
      have hP := lvT_put (L := T.flat) (w := v) (i := i) h2
      refine ⟨_, _, _, _, (cf_Put (T := lvT T.flat v i) (n := (nAt T.flat i).p) (o := (nAt T.flat i).o) (lvT_wf (flat_at W) v i) (flat_at W i) (by simp at c2; exact c2.1) (by omega)), ?_⟩
      repeat (refine Ob.mk ?_ ?_; (focus (first | (exact Eq.refl _) | (intro hg; ((intro hq; ((simp_all; done))))))))
      refine ⟨fun h3 => ?_, fun h3 => ?_⟩
      · skip
        (simp only [Int.reduceToNat, UInt8.reduceOfNat] at h3)
        have c3 := h3
        (simp only [Bool.not_eq_true', Bool.not_eq_false', Bool.not_true, Bool.not_false, Bool.and_eq_true, Bool.or_eq_true, Bool.and_eq_false_iff, Bool.or_eq_false_iff, Bool.not_not, beq_true, beq_false, decide_eq_true_eq, decide_eq_false_iff_not] at c3)
        exact absurd (show false = true from h3) (by decide)
      · skip
        (simp only [Int.reduceToNat, UInt8.reduceOfNat] at h3)
        have c3 := h3
        (simp only [Bool.not_eq_true', Bool.not_eq_false', Bool.not_true, Bool.not_false, Bool.and_eq_true, Bool.or_eq_true, Bool.and_eq_false_iff, Bool.or_eq_false_iff, Bool.not_not, beq_true, beq_false, decide_eq_true_eq, decide_eq_false_iff_not] at c3)
        repeat (refine Ob.mk ?_ ?_; focus (omega))
        refine ⟨i + 1, (by assumption), (by (simp only [SrcE.len, Nat.zero_add, List.length_append, List.length_cons, List.length_nil]; omega)), ?_⟩
        repeat (refine Ob.mk ?_ ?_; (focus (first | (rw [hP]; done) | (intro _ _ _ _; rw [hP]; done) | (exact Eq.refl _) | (intro hg; ((intro hq; ((simp_all; done))))))))
        trivial
    · skip
      have c2 := h2
      (simp only [Bool.not_eq_true', Bool.not_eq_false', Bool.not_true, Bool.not_false, Bool.and_eq_true, Bool.or_eq_true, Bool.and_eq_false_iff, Bool.or_eq_false_iff, Bool.not_not, beq_true, beq_false, decide_eq_true_eq, decide_eq_false_iff_not] at c2)
      have hP := lvT_skip (L := T.flat) (w := v) (i := i) h2
      repeat (refine Ob.mk ?_ ?_; focus (omega))
      refine ⟨i + 1, (by assumption), (by (simp only [SrcE.len, Nat.zero_add, List.length_append, List.length_cons, List.length_nil]; omega)), ?_⟩
      repeat (refine Ob.mk ?_ ?_; (focus (first | (rw [hP]; done) | (intro _ _ _ _; rw [hP]; done) | (exact Eq.refl _) | (intro hg; ((intro hq; ((simp_all; done))))))))
      trivial
  · skip
    have c1 := h1
    (simp only [Bool.not_eq_true', Bool.not_eq_false', Bool.not_true, Bool.not_false, Bool.and_eq_true, Bool.or_eq_true, Bool.and_eq_false_iff, Bool.or_eq_false_iff, Bool.not_not, beq_true, beq_false, decide_eq_true_eq, decide_eq_false_iff_not] at c1)
    have hi : i = T.flat.length := by have : i ≤ T.flat.length := hx1; omega
    subst hi
    repeat (refine Ob.mk ?_ ?_; (focus (((intro _; exact Eq.refl _)))))
    refine gx2 (hQ) (fun hk => ⟨fun _ => hk, ?_⟩)
    repeat (refine Ob.mk ?_ ?_; (focus (first | (intro _; rw [hS]; done) | (intro _ _ _ _ _; rw [hS]; done) | (rw [decide_eq_true (by omega : ((List.length (mpL l (kMin l)) : Nat) : Int) ≤ 16)]; rfl) | (intro _; exact Eq.refl _))))
    trivial
theorem cf_TrieLeaves {l : List RawS} {who : Int} (hl : ∀ x ∈ l, x.inn) (hw : IntIn who) : Cf Try.prog 21 [] [rawsE l, .i who] [] (.b true) :=
  cf_TrieLeavesO hl hw rfl rfl
end Go.Proofs.Ytpcagbfnddgjpaa
