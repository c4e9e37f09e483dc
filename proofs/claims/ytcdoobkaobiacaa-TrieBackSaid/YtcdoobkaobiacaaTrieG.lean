/- Tries: looking up, plainly. -/
import Derived.Test.YtcdoobkaobiacaaTrieD
namespace Go.Proofs.Ytcdoobkaobiacaa
open Tr
set_option linter.unusedVariables false
set_option linter.unusedSimpArgs false

/-- Where the way to a net ends. -/
def stopT : Tr → List Bool → Tr
  | .nil, _ => .nil
  | .node p o l r, n => if p ≠ n ∧ p <+: n then bif bitAt n p.length then stopT r n else stopT l n else .node p o l r
def getR (T : Tr) (n : List Bool) : List UInt8 × Int := match stopT T n with
  | .nil => ([], 5)
  | .node p o _ _ => if p = n ∧ o ≠ [] then (o, 0) else ([], 5)
theorem stop_step {p n o l r} (h1 : p ≠ n) (h2 : p <+: n) {b : Bool} (hb : bitAt n p.length = b) : stopT (.node p o l r) n = bif b then stopT r n else stopT l n := by
  rw [stopT, if_pos ⟨h1, h2⟩, hb]
theorem stop_end {p n o l r} (h : ¬ (p ≠ n ∧ p <+: n)) : stopT (.node p o l r) n = .node p o l r := by
  rw [stopT, if_neg h]
theorem getR_nil {T : Tr} {n} (h : stopT T n = .nil) : getR T n = ([], 5) := by unfold getR; rw [h]
theorem getR_no {T : Tr} {n p o l r} (h : stopT T n = .node p o l r) (h2 : ¬ (p = n ∧ o ≠ [])) : getR T n = ([], 5) := by unfold getR; rw [h]; exact if_neg h2
theorem getR_yes {T : Tr} {n o l r} (h : stopT T n = .node n o l r) (h2 : o ≠ []) : getR T n = (o, 0) := by unfold getR; rw [h]; exact if_pos ⟨rfl, h2⟩
theorem stop_has : ∀ {T : Tr} {n y}, T.wf → (T.has n y ↔ (stopT T n).has n y)
  | .nil, n, y, _ => Iff.rfl
  | .node p o l r, n, y, w => by
    have W := w
    obtain ⟨hp, ul, ur, hx, wl, wr⟩ := w
    by_cases h : p ≠ n ∧ p <+: n
    · have b := pre_bit h.2 h.1
      rw [stop_step h.1 h.2 rfl]
      cases hb : bitAt n p.length <;> rw [hb] at b
      · show _ ↔ (stopT l n).has n y
        rw [← stop_has wl]
        constructor
        · rintro (⟨k, _⟩ | k | k)
          · exact absurd k.symm h.1
          · exact k
          · have := pre_both (has_und wr ur k) b; cases this
        · exact fun k => .inr (.inl k)
      · show _ ↔ (stopT r n).has n y
        rw [← stop_has wr]
        constructor
        · rintro (⟨k, _⟩ | k | k)
          · exact absurd k.symm h.1
          · have := pre_both (has_und wl ul k) b; cases this
          · exact k
        · exact fun k => .inr (.inr k)
    · rw [stop_end h]
theorem stop_wf : ∀ {T : Tr} {n}, T.wf → (stopT T n).wf
  | .nil, n, _ => trivial
  | .node p o l r, n, w => by
    by_cases h : p ≠ n ∧ p <+: n
    · rw [stop_step h.1 h.2 rfl]
      cases bitAt n p.length
      · exact stop_wf w.2.2.2.2.1
      · exact stop_wf w.2.2.2.2.2
    · rw [stop_end h]; exact w
theorem stop_not : ∀ {T : Tr} {n p o l r}, stopT T n = .node p o l r → ¬ (p ≠ n ∧ p <+: n)
  | .nil, n, p, o, l, r, h => by cases h
  | .node p' o' l' r', n, p, o, l, r, h => by
    by_cases k : p' ≠ n ∧ p' <+: n
    · rw [stop_step k.1 k.2 rfl] at h
      cases hb : bitAt n p'.length <;> rw [hb] at h
      · exact stop_not (T := l') h
      · exact stop_not (T := r') h
    · rw [stop_end k] at h; cases h; exact k
theorem stop_own {T : Tr} {n y} (w : T.wf) (h : T.has n y) : ∃ l r, stopT T n = .node n y l r ∧ y ≠ [] := by
  have k := (stop_has w).1 h
  cases hs : stopT T n with
  | nil => rw [hs] at k; exact k.elim
  | node p o l r =>
    rw [hs] at k
    have ws := stop_wf (n := n) w
    rw [hs] at ws
    have nt := stop_not hs
    rcases k with ⟨rfl, rfl, k⟩ | k | k
    · exact ⟨l, r, rfl, k⟩
    · have := has_und ws.2.2.2.2.1 ws.2.1 k
      exact absurd ⟨pre_ne this, pre_of this⟩ nt
    · have := has_und ws.2.2.2.2.2 ws.2.2.1 k
      exact absurd ⟨pre_ne this, pre_of this⟩ nt
theorem get_in {T : Tr} {n y} (w : T.wf) (h : T.has n y) : getR T n = (y, 0) := by
  obtain ⟨l, r, e, k⟩ := stop_own w h
  exact getR_yes e k
theorem get_out {T : Tr} {n} (w : T.wf) (h : ∀ y, ¬ T.has n y) : getR T n = ([], 5) := by
  cases hs : stopT T n with
  | nil => exact getR_nil hs
  | node p o l r =>
    refine getR_no hs fun ⟨e, k⟩ => h o ((stop_has w).2 ?_)
    rw [hs]; exact .inl ⟨e.symm, rfl, k⟩
end Go.Proofs.Ytcdoobkaobiacaa
