/- Keys that are used: contracts. -/
import Derived.Test.YtcebndkiagbddaaDoorCTurn
import Derived.Test.YtcebndkiagbddaaDoorCHex
namespace Go.Proofs.YtcebndkiagbddaaDoor
open Go.RowKit
set_option linter.unusedVariables false
set_option linter.unusedSimpArgs false

theorem cf_Repeat {l : List UInt8} {c : Nat} (hc : c ≤ 1000000) (hl : l.length ≤ 1000000) : Cf Tryd.prog 18 [] [.s l, .i (c : Int)] [] (.s (Lib.repeatL l c)) :=
  Cf.of (by kernel_rfl) fun w Pub φ vs hp hR => by
    obtain ⟨u, v, rfl, h1, h2⟩ := ra2 hR
    have e1 := ra_val h1; have e2 := ra_val h2
    subst e1 e2
    have hlen : l.length * c ≤ 140737488355328 := by
      have := Nat.mul_le_mul hl hc
      omega
    exact Tryd.strings_Repeat ⟨⟨l⟩⟩ c w (by omega) hlen
set_option maxRecDepth 100000 in
set_option maxHeartbeats 4000000 in
theorem cf_Key {n : Int} (hn : IntIn n) : Cf Tryd.prog 6 [] [.i n] [] (.s (keyS n)) := by
  have h1 := pk_ge n (m := 8) (by decide)
  have h2 := pk_lt n (m := 8) (by decide)
  have e := keyS_eq n
  refine Cf.introR tabT {} D0 (by kernel_rfl) tab_ok Tryd.func6 Tryd.ntmps6 rfl rfl (D0_ok) (by kernel_rfl) ?_
  refine ⟨_, _, _, _, (@cf_picked ?_ ?_ ?_ ?_ ?_), ?_⟩
  rotate_left 5
  repeat (refine Ob.mk ?_ ?_; focus ((exact Eq.refl _)))
  refine ⟨_, _, _, _, (@cf_picked ?_ ?_ ?_ ?_ ?_), ?_⟩
  rotate_left 5
  repeat (refine Ob.mk ?_ ?_; (focus (first | (exact Eq.refl _) | omega | (simp only [SrcE.len, Nat.zero_add, List.length_append, List.length_cons, List.length_nil]; omega) | (simp [SrcE.len]; omega))))
  refine ⟨_, _, _, _, (cf_Repeat (l := [49] ++ (dig8.drop (pk n 8).toNat).take ((pk n 8 + 1).toNat - (pk n 8).toNat)) (c := 32) (by decide) (by simp only [List.length_append, List.length_take, List.length_drop, List.length_cons, List.length_nil, dig8]; omega)), ?_⟩
  repeat (refine Ob.mk ?_ ?_; focus (first | (exact Eq.refl _) | assumption))
  trivial
  all_goals (first | exact hn.1 | exact hn.2 | omega)
end Go.Proofs.YtcebndkiagbddaaDoor
