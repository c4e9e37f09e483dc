/- BatchTurns: the walk of the statement's function. -/
import Derived.Test.YtcdoobkaobiacaaDoorCBatchP
namespace Go.Proofs.YtcdoobkaobiacaaDoor
open Go.RowKit Go.Lib
set_option linter.unusedVariables false
set_option linter.unusedSimpArgs false

theorem one7 : parseR [108, 105, 115, 116, 101, 110, 95, 112, 111, 114, 116, 61, 55] = ([⟨2, [], 7, []⟩], 0, 0) := by
  have h : splitR [108, 105, 115, 116, 101, 110, 95, 112, 111, 114, 116, 61, 55] = ([([108, 105, 115, 116, 101, 110, 95, 112, 111, 114, 116], [55])], 0, 0) := by decide
  have e : chkS ⟨2, [], 7, []⟩ = 0 := by decide
  have k := read_line e (by decide)
  have v : valS ⟨2, [], 7, []⟩ = [55] := by
    show itoa 7 = _
    rw [itoa_nat (by decide)]
    exact decDigits_one (i := 7) (by decide)
  rw [v] at k
  have k : readS ([108, 105, 115, 116, 101, 110, 95, 112, 111, 114, 116], [55]) = (⟨2, [], 7, []⟩, 0) := k
  unfold parseR
  rw [h, if_pos rfl]
  show prR [] 0 [([108, 105, 115, 116, 101, 110, 95, 112, 111, 114, 116], [55])] = _
  unfold prR
  rw [k]; rfl
set_option maxRecDepth 100000 in
set_option maxHeartbeats 4000000 in
theorem cf_BatchTurns {s : List UInt8} : Cf Tryd.prog 9 [] [.s s] [] (.b true) := by
  have hO := cf_bParse (s := [108, 105, 115, 116, 101, 110, 95, 112, 111, 114, 116, 61, 55])
  rw [one7] at hO
  refine Cf.introR tabT {} D0 (by kernel_rfl) tab_ok Tryd.func9 Tryd.ntmps9 rfl rfl (D0_ok) (by kernel_rfl) ?_
  refine ⟨_, _, _, _, (cf_bParse (s := s)), ?_⟩
  repeat (refine Ob.mk ?_ ?_; focus ((exact Eq.refl _)))
  refine ⟨_, _, _, _, hO, ?_⟩
  repeat (refine Ob.mk ?_ ?_; (focus (first | (exact Eq.refl _) | (intro _; exact Eq.refl _) | (simp only [SrcE.len, Nat.zero_add, List.length_append, List.length_cons, List.length_nil]; omega))))
  refine ⟨fun h1 => ?_, fun h1 => ?_⟩
  · skip
    (simp only [Int.reduceToNat, UInt8.reduceOfNat] at h1)
    have c1 := h1
    (simp only [bsX] at c1)
    exact absurd (show false = true from h1) (by decide)
  · skip
    (simp only [Int.reduceToNat, UInt8.reduceOfNat] at h1)
    have c1 := h1
    (simp only [bsX] at c1)
    refine ⟨fun h2 => ?_, fun h2 => ?_⟩
    · skip
      have c2 := h2
      (simp only [bsX] at c2)
      have hT := parse_no (s := s) (by simpa using h2)
      repeat (refine Ob.mk ?_ ?_; (focus (((simp [hT.1, hT.2]; done)))))
      trivial
    · skip
      have c2 := h2
      (simp only [bsX] at c2)
      have hP := parse_ok (s := s) (by simpa using h2)
      have hJ := cf_bPrint (L := (parseR s).1) hP.2.1 (by omega)
      rw [hP.1] at hJ
      refine ⟨_, _, _, _, hJ, ?_⟩
      repeat (refine Ob.mk ?_ ?_; (focus (first | (exact Eq.refl _) | (intro _; exact Eq.refl _) | (intro hg; ((intro hq; ((simp_all; done))))) | (simp only [h1, h2, cond_true, cond_false, Bool.not_true, Bool.not_false, Bool.and_true, Bool.true_and, Bool.and_false, Bool.false_and, Bool.or_true, Bool.true_or, Bool.or_false, Bool.false_or, Int.reduceToNat, UInt8.reduceOfNat]; exact Eq.refl _))))
      trivial
end Go.Proofs.YtcdoobkaobiacaaDoor
