/- TableTurns: the walk of the statement's function. -/
import Derived.Test.YtpcagbfnddgjpaaCTable
namespace Go.Proofs.Ytpcagbfnddgjpaa
open Go.RowKit
set_option linter.unusedVariables false
set_option linter.unusedSimpArgs false

theorem z_ck : KS.z.ck = 0 := (KS.ck_0 (k := KS.z) rfl ⟨rfl, rfl, rfl, rfl, rfl, rfl, rfl, rfl, rfl, rfl, rfl⟩).symm
set_option maxRecDepth 100000 in
set_option maxHeartbeats 4000000 in
theorem cf_TableTurns {a b : Int} (ha : IntIn a) (hb : IntIn b) : Cf Try.prog 10 [] [.i a, .i b] [] (.b true) := by
  have hT := cf_talk (now := 10) ha hb (by decide) (by decide)
  have cx := talkX_ck (now := 10) a b (by decide) (by decide)
  have cy := talkY_ck (now := 10) a b (by decide) (by decide)
  have t1 := cf_TurnN z_ck z_ck z_ck cy rfl rfl
  have t2 := cf_TurnN cx z_ck z_ck cy rfl rfl
  have t3 := cf_TurnF cy z_ck z_ck cx rfl rfl
  have t4 := cf_ConfirmI (c := talkX a b 10) (l := KS.z) (n := talkY a b 10) rfl
  have t5 := cf_TurnI z_ck z_ck z_ck z_ck rfl
  have t6 := cf_ConfirmN (c := talkX a b 10) (l := talkY a b 10) (n := KS.z) rfl
  refine Cf.introR tabT {} (DR _ _ _ tabT {}) (by kernel_rfl) tab_ok Try.func10 Try.ntmps10 rfl rfl (DR_ok tab_ok (by kernel_rfl)) (by kernel_rfl) ?_
  refine ⟨_, _, _, _, hT, ?_⟩
  repeat (refine Ob.mk ?_ ?_; focus ((exact Eq.refl _)))
  refine ⟨_, _, _, _, t1, ?_⟩
  repeat (refine Ob.mk ?_ ?_; focus ((exact Eq.refl _)))
  refine ⟨_, _, _, _, t2, ?_⟩
  repeat (refine Ob.mk ?_ ?_; focus ((exact Eq.refl _)))
  refine ⟨_, _, _, _, t3, ?_⟩
  repeat (refine Ob.mk ?_ ?_; focus ((exact Eq.refl _)))
  refine ⟨_, _, _, _, t4, ?_⟩
  repeat (refine Ob.mk ?_ ?_; focus ((exact Eq.refl _)))
  refine ⟨_, _, _, _, t5, ?_⟩
  repeat (refine Ob.mk ?_ ?_; focus ((exact Eq.refl _)))
  refine ⟨[0, 1, 3, 7, 15, 31, 63, 127, 255, 511, 1023, 2047, 4095, 8191, 16383, 32767, 65535, 131071, 262143, 262143, 786431, 2097151, 4194303, 8388607, 16777215, 16777215, 16777215, 117440511, 268435455, 536870911, 1073741823, 2147483647, 2147483647, 2147483647, 15032385535, 34359738367, 68719476735, 137438953471, 274877906943, 274877906943, 274877906943, 1924145348607, 4398046511103, 8796093022207, 17592186044415, 35184372088831, 70368744177663, 35184372088831, 281474976710655, 562949953421311, 1125899906842623], by kernel_rfl, ?_⟩
  repeat (refine Ob.mk ?_ ?_; (focus (first | (intro _; exact Eq.refl _) | (exact fun hg => beq_t hg) | (exact fun hg => hg))))
  refine gx2 (t6) (fun hk => ⟨fun _ => hk, ?_⟩)
  repeat (refine Ob.mk ?_ ?_; (focus (first | (intro _; exact Eq.refl _) | (exact fun hg => beq_t hg) | (exact fun hg => hg) | (simp [KS.z]; done))))
  trivial
end Go.Proofs.Ytpcagbfnddgjpaa
