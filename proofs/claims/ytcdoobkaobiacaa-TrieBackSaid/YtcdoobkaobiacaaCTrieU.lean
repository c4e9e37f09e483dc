/- Tries: Put, and the trees of raw things. -/
import Derived.Test.YtcdoobkaobiacaaTrieM
namespace Go.Proofs.Ytcdoobkaobiacaa
open Go.RowKit Tr
set_option linter.unusedVariables false
set_option linter.unusedSimpArgs false

set_option maxRecDepth 100000 in
set_option maxHeartbeats 4000000 in
theorem cf_PutO {T : Tr} {n : List Bool} {o : List UInt8} (w : T.wf) (hn : n.length ≤ 32) (ho : o ≠ []) (h1 : T.flat.length ≤ 1000) (h2 : (putT T n o).flat.length ≤ 1002) : Cf Try.prog 12 [] [nodesE T.flat, netE n, .s o] [] (.tup [nodesE (putT T n o).flat, .i 0]) := by
  refine Cf.introR tabT {} (DR _ _ _ tabT {}) (by kernel_rfl) tab_ok Try.func12 Try.ntmps12 rfl rfl (DR_ok tab_ok (by kernel_rfl)) (by kernel_rfl) ?_
  refine ⟨_, _, _, _, (cf_Chk w (by omega)), ?_⟩
  repeat (refine Ob.mk ?_ ?_; (focus (first | (exact Eq.refl _) | (intro hg; ((intro hq; ((simp_all; done))))))))
  refine ⟨fun h1 => ?_, fun h1 => ?_⟩
  · skip
    (simp only [Int.reduceToNat, UInt8.reduceOfNat] at h1)
    have c1 := h1
    (simp only [Bool.not_eq_true', Bool.not_eq_false', Bool.not_true, Bool.not_false, Bool.and_eq_true, Bool.or_eq_true, Bool.and_eq_false_iff, Bool.or_eq_false_iff, Bool.not_not, beq_true, beq_false, decide_eq_true_eq, decide_eq_false_iff_not] at c1)
    exact absurd (show false = true from h1) (by decide)
  · skip
    (simp only [Int.reduceToNat, UInt8.reduceOfNat] at h1)
    have c1 := h1
    (simp only [Bool.not_eq_true', Bool.not_eq_false', Bool.not_true, Bool.not_false, Bool.and_eq_true, Bool.or_eq_true, Bool.and_eq_false_iff, Bool.or_eq_false_iff, Bool.not_not, beq_true, beq_false, decide_eq_true_eq, decide_eq_false_iff_not] at c1)
    refine ⟨_, _, _, _, (cf_nCheck hn), ?_⟩
    repeat (refine Ob.mk ?_ ?_; focus ((exact Eq.refl _)))
    refine ⟨fun h2 => ?_, fun h2 => ?_⟩
    · skip
      (simp only [Int.reduceToNat, UInt8.reduceOfNat] at h2)
      have c2 := h2
      (simp only [Bool.not_eq_true', Bool.not_eq_false', Bool.not_true, Bool.not_false, Bool.and_eq_true, Bool.or_eq_true, Bool.and_eq_false_iff, Bool.or_eq_false_iff, Bool.not_not, beq_true, beq_false, decide_eq_true_eq, decide_eq_false_iff_not] at c2)
      exact absurd (show false = true from h2) (by decide)
    · skip
      (simp only [Int.reduceToNat, UInt8.reduceOfNat] at h2)
      have c2 := h2
      (simp only [Bool.not_eq_true', Bool.not_eq_false', Bool.not_true, Bool.not_false, Bool.and_eq_true, Bool.or_eq_true, Bool.and_eq_false_iff, Bool.or_eq_false_iff, Bool.not_not, beq_true, beq_false, decide_eq_true_eq, decide_eq_false_iff_not] at c2)
      refine ⟨fun h3 => ?_, fun h3 => ?_⟩
      · skip
        have c3 := h3
        (simp only [Bool.not_eq_true', Bool.not_eq_false', Bool.not_true, Bool.not_false, Bool.and_eq_true, Bool.or_eq_true, Bool.and_eq_false_iff, Bool.or_eq_false_iff, Bool.not_not, beq_true, beq_false, decide_eq_true_eq, decide_eq_false_iff_not] at c3)
        exact absurd h3 (by simp [ho])
      · skip
        have c3 := h3
        (simp only [Bool.not_eq_true', Bool.not_eq_false', Bool.not_true, Bool.not_false, Bool.and_eq_true, Bool.or_eq_true, Bool.and_eq_false_iff, Bool.or_eq_false_iff, Bool.not_not, beq_true, beq_false, decide_eq_true_eq, decide_eq_false_iff_not] at c3)
        refine ⟨[0, 1, 0, 0, 15, 31, 63, 127, 255], by kernel_rfl, ?_⟩
        refine ⟨_, _, _, _, (cf_tree w (by omega)), ?_⟩
        repeat (refine Ob.mk ?_ ?_; (focus (first | (exact Eq.refl _) | (intro hg; ((intro hq; ((simp_all; done))))))))
        refine ⟨_, _, _, _, (cf_put (o := o) w hn), ?_⟩
        repeat (refine Ob.mk ?_ ?_; focus ((exact Eq.refl _)))
        refine ⟨_, _, _, _, (cf_list (T := putT T n o) (by omega)), ?_⟩
        repeat (refine Ob.mk ?_ ?_; focus ((exact Eq.refl _)))
        refine ⟨_, _, _, _, (cf_ndClone (L := (putT T n o).flat) (by omega)), ?_⟩
        repeat (refine Ob.mk ?_ ?_; (focus (first | (exact Eq.refl _) | (intro hg; ((intro hq; ((simp_all; done))))))))
        trivial
theorem cf_Put {T : Tr} {n : List Bool} {o : List UInt8} (w : T.wf) (hn : n.length ≤ 32) (ho : o ≠ []) (h1 : T.flat.length ≤ 1000) : Cf Try.prog 12 [] [nodesE T.flat, netE n, .s o] [] (.tup [nodesE (putT T n o).flat, .i 0]) :=
  cf_PutO w hn ho h1 (by have := putT_len (T := T) (n := n) (o := o); omega)
theorem rawIn_at {l : List RawS} (hl : ∀ x ∈ l, x.inn) {i : Nat} (hi : i < l.length) : IntOk (rAt l i).k ∧ IntOk (rAt l i).a ∧ IntOk (rAt l i).b := by
  have e : rAt l i = l[i] := by show l.getD i default = l[i]; rw [List.getD_eq_getElem?_getD, List.getElem?_eq_getElem hi]; rfl
  have := hl l[i] (List.getElem_mem hi)
  rw [← e] at this
  exact ⟨this.1, this.2.1, this.2.2.1⟩
abbrev kMin (l : List RawS) : Nat := min l.length 16
set_option maxRecDepth 100000 in
set_option maxHeartbeats 4000000 in
theorem cf_treeOf {l : List RawS} (hl : ∀ x ∈ l, x.inn) : Cf Try.prog 6 [] [rawsE l] [(60, .mp (mpL l (kMin l)))] (.tup [nodesE (trL l (kMin l)).flat, .mref 60, .b true]) := by
  have hW := fun i => (relL l i).wf
  have hL := fun i => trL_len l i
  refine Cf.introR tabT {} (DR _ _ _ tabT {}) (by kernel_rfl) tab_ok Try.func6 Try.ntmps6 rfl rfl (DR_ok tab_ok (by kernel_rfl)) (by kernel_rfl) ?_
  refine ⟨Nat, fun i => ⟨[(5, nodesE (trL l i).flat), (6, .mref 1013), (14, rawsE l), (15, .i (l.length : Int)), (16, .i (i : Int))], [(1013, .mp (mpL l i))]⟩, fun i => i ≤ l.length ∧ i ≤ 16, fun i => l.length - i, 0, by omega, ?_, fun i hx1 => ?_⟩
  · skip
    repeat (refine Ob.mk ?_ ?_; focus (first | (exact fun _ _ _ _ => rfl) | (exact Eq.refl _)))
    trivial
  refine ⟨fun h1 => ?_, fun h1 => ?_⟩
  · skip
    have c1 := h1
    (simp only [Bool.not_eq_true', Bool.not_eq_false', Bool.not_true, Bool.not_false, Bool.and_eq_true, Bool.or_eq_true, Bool.and_eq_false_iff, Bool.or_eq_false_iff, Bool.not_not, beq_true, beq_false, decide_eq_true_eq, decide_eq_false_iff_not] at c1)
    have hi : i < l.length := by omega
    have hI := rawIn_at hl hi
    have hLi := hL i
    have hx2 := hx1.2
    repeat (refine Ob.mk ?_ ?_; focus (first | assumption | omega))
    refine ⟨fun h2 => ?_, fun h2 => ?_⟩
    · skip
      have c2 := h2
      (simp only [Bool.not_eq_true', Bool.not_eq_false', Bool.not_true, Bool.not_false, Bool.and_eq_true, Bool.or_eq_true, Bool.and_eq_false_iff, Bool.or_eq_false_iff, Bool.not_not, beq_true, beq_false, decide_eq_true_eq, decide_eq_false_iff_not] at c2)
      have hk : i = kMin l := by show i = min l.length 16; omega
      subst hk
      refine ⟨_, _, _, _, (cf_Put (T := .nil) (n := []) (o := [120]) trivial (by decide) (by decide) (by decide)), ?_⟩
      repeat (refine Ob.mk ?_ ?_; focus ((exact Eq.refl _)))
      refine ⟨[0, 0, 0, 4, 12, 28, 60, 124, 252, 508, 1020, 2044, 4092, 8188, 16380, 32764, 1021, 66559, 262143], by kernel_rfl, ?_⟩
      repeat (refine Ob.mk ?_ ?_; (focus (first | (exact fun _ _ _ _ => rfl) | (exact Eq.refl _) | (intro _; exact Eq.refl _) | (intro hg; ((simp at hg; omega))))))
      trivial
    · skip
      have c2 := h2
      (simp only [Bool.not_eq_true', Bool.not_eq_false', Bool.not_true, Bool.not_false, Bool.and_eq_true, Bool.or_eq_true, Bool.and_eq_false_iff, Bool.or_eq_false_iff, Bool.not_not, beq_true, beq_false, decide_eq_true_eq, decide_eq_false_iff_not] at c2)
      refine ⟨[0, 0, 2, 0, 8, 30, 63, 127, 255, 255, 511, 2047], by kernel_rfl, ?_⟩
      refine ⟨_, _, _, _, (cf_kNet (s := (rAt l i).s) hI.1 hI.2.1 hI.2.2), ?_⟩
      repeat (refine Ob.mk ?_ ?_; focus ((exact Eq.refl _)))
      refine ⟨_, _, _, _, (cf_Key hI.2.2), ?_⟩
      repeat (refine Ob.mk ?_ ?_; focus ((exact Eq.refl _)))
      refine ⟨_, _, _, _, (cf_Put (T := trL l i) (n := rnet (rAt l i)) (o := keyS (rAt l i).b) (hW i) netP_len (keyS_ne _) (by omega)), ?_⟩
      repeat (refine Ob.mk ?_ ?_; focus (first | (exact fun _ _ _ _ => rfl) | (exact Eq.refl _)))
      refine gx2 (cf_Chk (T := trL l (i + 1)) (hW (i + 1)) (by have := hL (i + 1); omega)) (fun hk => ⟨fun _ => hk, ?_⟩)
      repeat (refine Ob.mk ?_ ?_; (focus (first | (exact fun _ _ _ _ _ => rfl) | (intro _; exact Eq.refl _))))
      refine ⟨fun h3 => ?_, fun h3 => ?_⟩
      · skip
        (simp only [Int.reduceToNat, UInt8.reduceOfNat] at h3)
        have c3 := h3
        (simp only [Bool.not_eq_true', Bool.not_eq_false', Bool.not_true, Bool.not_false, Bool.and_eq_true, Bool.or_eq_true, Bool.and_eq_false_iff, Bool.or_eq_false_iff, Bool.not_not, beq_true, beq_false, decide_eq_true_eq, decide_eq_false_iff_not] at c3)
        exact absurd (show false = true from h3) (by decide)
      · skip
        (simp only [Int.reduceToNat, UInt8.reduceOfNat] at h3)
        have c3 := h3
        (simp only [Bool.not_eq_true', Bool.not_eq_false', Bool.not_true, Bool.not_false, Bool.and_eq_true, Bool.or_eq_true, Bool.and_eq_false_iff, Bool.or_eq_false_iff, Bool.not_not, beq_true, beq_false, decide_eq_true_eq, decide_eq_false_iff_not] at c3)
        refine ⟨[0, 0, 2, 0, 8, 30, 63], by kernel_rfl, ?_⟩
        refine ⟨_, _, _, _, (cf_kNet (s := (rAt l i).s) hI.1 hI.2.1 hI.2.2), ?_⟩
        repeat (refine Ob.mk ?_ ?_; focus ((exact Eq.refl _)))
        refine ⟨_, _, _, _, (cf_Key hI.2.2), ?_⟩
        repeat (refine Ob.mk ?_ ?_; focus (first | (exact Eq.refl _) | omega))
        refine ⟨i + 1, (by omega), (by (simp only [SrcE.len, Nat.zero_add, List.length_append, List.length_cons, List.length_nil]; omega)), ?_⟩
        repeat (refine Ob.mk ?_ ?_; focus (first | (exact fun _ _ _ _ => rfl) | (exact Eq.refl _)))
        trivial
  · skip
    have c1 := h1
    (simp only [Bool.not_eq_true', Bool.not_eq_false', Bool.not_true, Bool.not_false, Bool.and_eq_true, Bool.or_eq_true, Bool.and_eq_false_iff, Bool.or_eq_false_iff, Bool.not_not, beq_true, beq_false, decide_eq_true_eq, decide_eq_false_iff_not] at c1)
    have hk : i = kMin l := by have := hx1.1; have := hx1.2; show i = min l.length 16; omega
    subst hk
    refine ⟨_, _, _, _, (cf_Put (T := .nil) (n := []) (o := [120]) trivial (by decide) (by decide) (by decide)), ?_⟩
    repeat (refine Ob.mk ?_ ?_; focus ((exact Eq.refl _)))
    refine ⟨[0, 0, 0, 4, 12, 28, 60, 124, 252, 508, 1020, 2044, 4092, 8188, 16380, 32764, 1021, 66559, 262143], by kernel_rfl, ?_⟩
    repeat (refine Ob.mk ?_ ?_; (focus (first | (exact fun _ _ _ _ => rfl) | (exact Eq.refl _) | (intro _; exact Eq.refl _) | (intro hg; ((simp at hg; omega))))))
    trivial
end Go.Proofs.Ytcdoobkaobiacaa
