/- KeysStrict: the walk of the statement's function. -/
import Derived.Test.YtpcagbfnddgjpaaCKeysG
import Derived.Test.YtpcagbfnddgjpaaClSealS
namespace Go.Proofs.Ytpcagbfnddgjpaa
open Go.RowKit
set_option linter.unusedVariables false
set_option linter.unusedSimpArgs false

theorem strict_facts (a b : Int) {B : List UInt8} (hb : B.length ≤ 100) (at_ : Int) (y : UInt8) :
    (talkX a b 10).slE 20 B = 0 ∧ (talkX a b 10).slR 20 B = sealS (talkX a b 10).send 0 B ∧
    (talkY a b 10).opE 20 0 ((sealS (talkX a b 10).send 0 B).take B.length ++ trn ((sealS (talkX a b 10).send 0 B).drop B.length) at_ y) = 9 ∧
    (talkY a b 10).opE 20 0 (sealS (talkX a b 10).send 0 B) = 0 ∧ (talkY a b 10).opR 20 0 (sealS (talkX a b 10).send 0 B) = B := by
  have cx := talkX_ck (now := 10) a b (by decide) (by decide)
  have cy := talkY_ck (now := 10) a b (by decide) (by decide)
  have hk := (talk_keys a b 10).1
  have f0 : (talkX a b 10).fresh 20 = true := KS.fresh_is cx rfl (show (0 : Int) < _ by decide) (show (10 : Int) ≤ 20 by decide) (show (20 : Int) - 10 < 180 by decide)
  have s0 := seal_ok (k := (talkX a b 10).send) (c := 0) (b := B) hk (by decide) (by decide) (by omega)
  have e0 : (talkX a b 10).slE 20 B = 0 := (KS.slE_3 cx f0).symm.trans s0.1
  have o0 := open_seal (k := (talkX a b 10).send) (c := 0) (b := B) hk (by decide) (by decide) (by omega)
  have o1 := open_turned (k := (talkX a b 10).send) (c := 0) (b := B) hk (by decide) (by decide) (by omega) at_ y
  have lt : ¬ (talkY a b 10).late 20 := KS.late_not ⟨⟨rfl, show ¬ (20 : Int) < 10 by decide⟩, show ¬ 180 ≤ (20 : Int) - 10 by decide⟩
  have e4 : (talkY a b 10).opE 20 0 (sealS (talkX a b 10).send 0 B) = 0 := (KS.opE_4 cy lt o0.1).symm.trans (wnTk_new (by decide) (by decide))
  refine ⟨e0, by unfold KS.slR; rw [if_pos e0]; exact s0.2, ?_, e4, by unfold KS.opR; rw [if_pos e4]; exact o0.2⟩
  exact (KS.opE_3 (c := 0) cy lt (by rw [show (talkY a b 10).take = (talkX a b 10).send from rfl, o1.1]; decide)).symm.trans o1.1
set_option maxRecDepth 100000 in
set_option maxHeartbeats 4000000 in
theorem cf_KeysStrict {a b at_ : Int} {s : List UInt8} {y : UInt8} (ha : IntIn a) (hb : IntIn b) (hat : IntIn at_) : Cf Try.prog 13 [] [.i a, .i b, .s s, .i at_, .u8 y] [] (.b true) := by
  have hB : (s.take (min (s.length : Int) 100).toNat).length ≤ 100 := by rw [List.length_take]; omega
  obtain ⟨e1, e2, e3, e4, e5⟩ := strict_facts a b hB at_ y
  have hT := cf_talk (now := 10) ha hb (by decide) (by decide)
  have s1 := cf_kySeal (k := talkX a b 10) (now := 20) (b := s.take (min (s.length : Int) 100).toNat) ⟨by decide, by decide⟩ (by omega)
  have l1 := sealS_length (talkX a b 10).send 0 (s.take (min (s.length : Int) 100).toNat)
  have ld : ((sealS (talkX a b 10).send 0 (s.take (min (s.length : Int) 100).toNat)).drop (s.take (min (s.length : Int) 100).toNat).length).length = 16 := by rw [List.length_drop]; omega
  have lt : ((sealS (talkX a b 10).send 0 (s.take (min (s.length : Int) 100).toNat)).take (s.take (min (s.length : Int) 100).toNat).length).length = (s.take (min (s.length : Int) 100).toNat).length := by rw [List.length_take]; omega
  have hU := cf_TurnedO (l := (sealS (talkX a b 10).send 0 (s.take (min (s.length : Int) 100).toNat)).drop (s.take (min (s.length : Int) 100).toNat).length) (y := y) (by omega) hat.1 hat.2
  have lu := trn_len ((sealS (talkX a b 10).send 0 (s.take (min (s.length : Int) 100).toNat)).drop (s.take (min (s.length : Int) 100).toNat).length) at_ y
  have hC := cf_Concat (l := (sealS (talkX a b 10).send 0 (s.take (min (s.length : Int) 100).toNat)).take (s.take (min (s.length : Int) 100).toNat).length) (m := trn ((sealS (talkX a b 10).send 0 (s.take (min (s.length : Int) 100).toNat)).drop (s.take (min (s.length : Int) 100).toNat).length) at_ y) (by omega) (by omega)
  have s2 := cf_kyOpen (k := talkY a b 10) (now := 20) (c := 0) (b := (sealS (talkX a b 10).send 0 (s.take (min (s.length : Int) 100).toNat)).take (s.take (min (s.length : Int) 100).toNat).length ++ trn ((sealS (talkX a b 10).send 0 (s.take (min (s.length : Int) 100).toNat)).drop (s.take (min (s.length : Int) 100).toNat).length) at_ y) ⟨by decide, by decide⟩ (by rw [List.length_append]; omega)
  have s3 := cf_kyOpen (k := talkY a b 10) (now := 20) (c := 0) (b := sealS (talkX a b 10).send 0 (s.take (min (s.length : Int) 100).toNat)) ⟨by decide, by decide⟩ (by omega)
  rw [e1, e2] at s1; rw [e3] at s2; rw [e4, e5] at s3
  refine Cf.introR tabT {} (DR _ _ _ tabT {}) (by kernel_rfl) tab_ok Try.func13 Try.ntmps13 rfl rfl (DR_ok tab_ok (by kernel_rfl)) (by kernel_rfl) ?_
  refine ⟨_, _, _, _, hT, ?_⟩
  repeat (refine Ob.mk ?_ ?_; (focus (first | (exact Eq.refl _) | omega | (simp only [SrcE.len, Nat.zero_add, List.length_append, List.length_cons, List.length_nil]; omega))))
  refine ⟨_, _, _, _, s1, ?_⟩
  repeat (refine Ob.mk ?_ ?_; (focus (first | (exact Eq.refl _) | (intro _; exact Eq.refl _) | (simp only [SrcE.len, Nat.zero_add, List.length_append, List.length_cons, List.length_nil]; omega))))
  refine ⟨fun h1 => ?_, fun h1 => ?_⟩
  · skip
    (simp only [Int.reduceToNat, UInt8.reduceOfNat] at h1)
    have c1 := h1
    (simp only [Bool.not_eq_true', Bool.not_eq_false', Bool.not_true, Bool.not_false, Bool.and_eq_true, Bool.or_eq_true, Bool.and_eq_false_iff, Bool.or_eq_false_iff, Bool.not_not, beq_true, beq_false, decide_eq_true_eq, decide_eq_false_iff_not] at c1)
    repeat (refine Ob.mk ?_ ?_; (focus (((simp_all; done)))))
    trivial
  · skip
    (simp only [Int.reduceToNat, UInt8.reduceOfNat] at h1)
    have c1 := h1
    (simp only [Bool.not_eq_true', Bool.not_eq_false', Bool.not_true, Bool.not_false, Bool.and_eq_true, Bool.or_eq_true, Bool.and_eq_false_iff, Bool.or_eq_false_iff, Bool.not_not, beq_true, beq_false, decide_eq_true_eq, decide_eq_false_iff_not] at c1)
    refine ⟨[0, 0, 0, 4, 14, 0, 0, 64, 224, 0, 0, 2016, 4094, 8190, 16383, 32767, 65535, 65535, 65535, 0, 655359, 1835007, 4194303], by kernel_rfl, ?_⟩
    repeat (refine Ob.mk ?_ ?_; (focus (((simp only [SrcE.len, Nat.zero_add, List.length_append, List.length_cons, List.length_nil]; omega)))))
    refine ⟨_, _, _, _, hU, ?_⟩
    repeat (refine Ob.mk ?_ ?_; focus ((exact Eq.refl _)))
    refine ⟨_, _, _, _, hC, ?_⟩
    repeat (refine Ob.mk ?_ ?_; focus ((exact Eq.refl _)))
    refine ⟨_, _, _, _, s2, ?_⟩
    repeat (refine Ob.mk ?_ ?_; focus ((exact Eq.refl _)))
    refine ⟨_, _, _, _, s3, ?_⟩
    repeat (refine Ob.mk ?_ ?_; (focus (first | (exact Eq.refl _) | (intro _; exact Eq.refl _) | (simp only [h1, cond_true, cond_false, Bool.not_true, Bool.not_false, Bool.and_true, Bool.true_and, Bool.and_false, Bool.false_and, Bool.or_true, Bool.true_or, Bool.or_false, Bool.false_or, Int.reduceToNat, UInt8.reduceOfNat]; exact Eq.refl _))))
    trivial
end Go.Proofs.Ytpcagbfnddgjpaa
