/- KeysAge: the walk of the statement's function. -/
import Derived.Test.YtpcagbfnddgjpaaCKeysG
namespace Go.Proofs.Ytpcagbfnddgjpaa
open Go.RowKit
set_option linter.unusedVariables false
set_option linter.unusedSimpArgs false

theorem age_facts (a b : Int) {n g : Int} (h0 : 0 ≤ n) (h1 : n < 1000) (h2 : 0 ≤ g) (h3 : g < 300) :
    (talkX a b n).slE n [120] = 0 ∧ (talkX a b n).slE (n + g) [120] = (if 180 ≤ g then 13 else 0) ∧ (talkY a b n).opE (n + g) 0 ((talkX a b n).slR n [120]) = (if 180 ≤ g then 13 else 0) ∧ (talkX a b n).fresh (n + g) = decide (g < 180) := by
  have cx := talkX_ck (now := n) a b h0 (by omega)
  have cy := talkY_ck (now := n) a b h0 (by omega)
  have hk := (talk_keys a b n).1
  have f0 : (talkX a b n).fresh n = true := KS.fresh_is cx rfl (show (0 : Int) < _ by decide) (Int.le_refl _) (show n - n < 180 by omega)
  have s0 := seal_ok (k := (talkX a b n).send) (c := 0) (b := [120]) hk (by decide) (by decide) (by decide)
  have e0 : (talkX a b n).slE n [120] = 0 := (KS.slE_3 cx f0).symm.trans s0.1
  have r0 : (talkX a b n).slR n [120] = sealS (talkX a b n).send 0 [120] := by unfold KS.slR; rw [if_pos e0]; exact s0.2
  have o0 := open_seal (k := (talkX a b n).send) (c := 0) (b := [120]) hk (by decide) (by decide) (by decide)
  refine ⟨e0, ?_, ?_, ?_⟩
  · by_cases hg : 180 ≤ g
    · rw [if_pos hg]; exact (KS.slE_2 cx (KS.fresh_no (show 180 ≤ n + g - n by omega))).symm
    · rw [if_neg hg]
      exact (KS.slE_3 cx (KS.fresh_is cx rfl (show (0 : Int) < _ by decide) (show n ≤ n + g by omega) (show n + g - n < 180 by omega))).symm.trans s0.1
  · rw [r0]
    by_cases hg : 180 ≤ g
    · rw [if_pos hg]; exact (KS.opE_2 cy (.inr (show 180 ≤ n + g - n by omega))).symm
    · rw [if_neg hg]
      exact (KS.opE_4 cy (KS.late_not ⟨⟨rfl, show ¬ n + g < n by omega⟩, show ¬ 180 ≤ n + g - n by omega⟩) o0.1).symm.trans (wnTk_new (by decide) (by decide))
  · by_cases hg : 180 ≤ g
    · rw [KS.fresh_no (show 180 ≤ n + g - n by omega), decide_eq_false (by omega)]
    · rw [KS.fresh_is cx rfl (show (0 : Int) < _ by decide) (show n ≤ n + g by omega) (show n + g - n < 180 by omega), decide_eq_true (by omega)]
set_option maxRecDepth 100000 in
set_option maxHeartbeats 4000000 in
theorem cf_KeysAge {a b n g : Int} (ha : IntIn a) (hb : IntIn b) (hn : IntIn n) (hg : IntIn g) : Cf Try.prog 12 [] [.i a, .i b, .i n, .i g] [] (.b true) := by
  have n1 := pk_ge n (m := 1000) (by decide)
  have n2 := pk_lt n (m := 1000) (by decide)
  have g1 := pk_ge g (m := 300) (by decide)
  have g2 := pk_lt g (m := 300) (by decide)
  obtain ⟨e1, e2, e3, e4⟩ := age_facts a b n1 n2 g1 g2
  have hT := cf_talk ha hb n1 (by omega)
  have s1 := cf_kySeal (k := talkX a b (pk n 1000)) (now := pk n 1000) (b := [120]) ⟨by omega, by omega⟩ (by decide)
  have s2 := cf_kySeal (k := talkX a b (pk n 1000)) (now := pk n 1000 + pk g 300) (b := [120]) ⟨by omega, by omega⟩ (by decide)
  have ls : ((talkX a b (pk n 1000)).slR (pk n 1000) [120]).length ≤ 1000000 := by unfold KS.slR; rw [if_pos e1, (seal_ok (c := (talkX a b (pk n 1000)).cnt) (b := [120]) (talk_keys a b (pk n 1000)).1 (show (0 : Int) ≤ 0 by decide) (show (0 : Int) ≤ _ by decide) (by decide)).2, sealS_length]; decide
  have s3 := cf_kyOpen (k := talkY a b (pk n 1000)) (now := pk n 1000 + pk g 300) (c := 0) (b := (talkX a b (pk n 1000)).slR (pk n 1000) [120]) ⟨by omega, by omega⟩ ls
  have s4 := cf_kyFresh (k := talkX a b (pk n 1000)) (now := pk n 1000 + pk g 300) n1 (show pk n 1000 ≤ _ by omega) ⟨by omega, by omega⟩
  have s5 := cf_kyOld (k := talkX a b (pk n 1000)) (now := pk n 1000 + pk g 300) n1 (show pk n 1000 ≤ _ by omega) ⟨by omega, by omega⟩
  have e6 : pk n 1000 + pk g 300 - (talkX a b (pk n 1000)).born = pk g 300 := by show _ + _ - pk n 1000 = _; omega
  rw [e1] at s1; rw [e2] at s2; rw [e3] at s3; rw [e4] at s4 s5
  refine Cf.introR tabT {} D0 (by kernel_rfl) tab_ok Try.func12 Try.ntmps12 rfl rfl (D0_ok) (by kernel_rfl) ?_
  refine ⟨_, _, _, _, (@cf_picked ?_ ?_ ?_ ?_ ?_), ?_⟩
  rotate_left 5
  repeat (refine Ob.mk ?_ ?_; focus ((exact Eq.refl _)))
  refine ⟨_, _, _, _, (@cf_picked ?_ ?_ ?_ ?_ ?_), ?_⟩
  rotate_left 5
  repeat (refine Ob.mk ?_ ?_; focus ((exact Eq.refl _)))
  refine ⟨_, _, _, _, hT, ?_⟩
  repeat (refine Ob.mk ?_ ?_; focus ((exact Eq.refl _)))
  refine ⟨fun h1 => ?_, fun h1 => ?_⟩
  · skip
    have c1 := h1
    (simp only [Bool.not_eq_true', Bool.not_eq_false', Bool.not_true, Bool.not_false, Bool.and_eq_true, Bool.or_eq_true, Bool.and_eq_false_iff, Bool.or_eq_false_iff, Bool.not_not, beq_true, beq_false, decide_eq_true_eq, decide_eq_false_iff_not] at c1)
    repeat (refine Ob.mk ?_ ?_; focus (assumption))
    trivial
  · skip
    have c1 := h1
    (simp only [Bool.not_eq_true', Bool.not_eq_false', Bool.not_true, Bool.not_false, Bool.and_eq_true, Bool.or_eq_true, Bool.and_eq_false_iff, Bool.or_eq_false_iff, Bool.not_not, beq_true, beq_false, decide_eq_true_eq, decide_eq_false_iff_not] at c1)
    repeat (refine Ob.mk ?_ ?_; focus (omega))
    refine ⟨_, _, _, _, s1, ?_⟩
    repeat (refine Ob.mk ?_ ?_; focus (first | (exact Eq.refl _) | omega))
    refine ⟨_, _, _, _, s2, ?_⟩
    repeat (refine Ob.mk ?_ ?_; focus (first | (exact Eq.refl _) | omega))
    refine ⟨_, _, _, _, s3, ?_⟩
    repeat (refine Ob.mk ?_ ?_; focus ((exact Eq.refl _)))
    refine ⟨fun h2 => ?_, fun h2 => ?_⟩
    · skip
      have c2 := h2
      (simp only [Bool.not_eq_true', Bool.not_eq_false', Bool.not_true, Bool.not_false, Bool.and_eq_true, Bool.or_eq_true, Bool.and_eq_false_iff, Bool.or_eq_false_iff, Bool.not_not, beq_true, beq_false, decide_eq_true_eq, decide_eq_false_iff_not] at c2)
      repeat (refine Ob.mk ?_ ?_; (focus (first | (intro _; exact Eq.refl _) | omega | (exact fun hg => beq_t hg) | (exact fun hg => hg))))
      refine gx2 (s4) (fun hk => ⟨fun _ => hk, ?_⟩)
      repeat (refine Ob.mk ?_ ?_; (focus (first | (intro _; exact Eq.refl _) | omega | (exact fun hg => beq_t hg) | (exact fun hg => hg))))
      refine gx2 (s5) (fun hk => ⟨fun _ => hk, ?_⟩)
      repeat (refine Ob.mk ?_ ?_; (focus (first | (intro _; exact Eq.refl _) | (exact fun hg => beq_t hg) | (exact fun hg => hg) | (simp [SrcE.len]; omega))))
      trivial
    · skip
      have c2 := h2
      (simp only [Bool.not_eq_true', Bool.not_eq_false', Bool.not_true, Bool.not_false, Bool.and_eq_true, Bool.or_eq_true, Bool.and_eq_false_iff, Bool.or_eq_false_iff, Bool.not_not, beq_true, beq_false, decide_eq_true_eq, decide_eq_false_iff_not] at c2)
      have gg := c2; have gh : pk g 300 < 180 := by omega
      repeat (refine Ob.mk ?_ ?_; (focus (first | (intro _; exact Eq.refl _) | omega | (exact fun hg => beq_t hg) | (exact fun hg => hg))))
      refine gx2 (s4) (fun hk => ⟨fun _ => hk, ?_⟩)
      repeat (refine Ob.mk ?_ ?_; (focus (first | (intro _; exact Eq.refl _) | omega | (exact fun hg => beq_t hg) | (exact fun hg => hg))))
      refine gx2 (s5) (fun hk => ⟨fun _ => hk, ?_⟩)
      repeat (refine Ob.mk ?_ ?_; (focus (first | (intro _; exact Eq.refl _) | (exact fun hg => beq_t hg) | (exact fun hg => hg) | (rw [e6]; simp [gg, gh]; done))))
      trivial
  all_goals (omega)
end Go.Proofs.Ytpcagbfnddgjpaa
