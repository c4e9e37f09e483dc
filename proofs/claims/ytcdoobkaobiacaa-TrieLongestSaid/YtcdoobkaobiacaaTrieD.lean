/- Tries: what is left when some nets are dropped, plainly. -/
import Derived.Test.YtcdoobkaobiacaaTrieM
namespace Go.Proofs.Ytcdoobkaobiacaa
open Tr
set_option linter.unusedVariables false
set_option linter.unusedSimpArgs false

def stripN (q : Bool) (p : List Bool) (o : List UInt8) (l r : Tr) : Tr :=
  bif (!decide ((bif q then [] else o) = [])) || (!l.c.isNone && !r.c.isNone) then .node p (bif q then [] else o) l r else bif !l.c.isNone then l else r
def stripT (f : List Bool → List UInt8 → Bool) : Tr → Tr
  | .nil => .nil
  | .node p o l r => stripN (f p o) p o (stripT f l) (stripT f r)
theorem c_nil {T : Tr} : T.c.isNone = true ↔ T = .nil := by
  cases T with
  | nil => exact ⟨fun _ => rfl, fun _ => rfl⟩
  | node p o l r => exact ⟨fun h => (by cases h), fun h => (by cases h)⟩
/-- A node that is kept has an owner or both kids; else it is one of its kids. -/
theorem stripN_cases (q : Bool) (p : List Bool) (o : List UInt8) (l r : Tr) :
    (stripN q p o l r = .node p (bif q then [] else o) l r ∧ ((bif q then [] else o) = [] → l ≠ .nil ∧ r ≠ .nil)) ∨
    ((bif q then [] else o) = [] ∧ ((stripN q p o l r = l ∧ r = .nil) ∨ (stripN q p o l r = r ∧ l = .nil))) := by
  unfold stripN
  generalize (bif q then [] else o) = x
  by_cases hx : x = []
  · cases hl : l.c.isNone
    · cases hr : r.c.isNone
      · left; exact ⟨by simp [hx], fun _ => ⟨fun e => (by rw [c_nil.2 e] at hl; cases hl), fun e => (by rw [c_nil.2 e] at hr; cases hr)⟩⟩
      · right; exact ⟨hx, .inl ⟨by simp [hx], c_nil.1 hr⟩⟩
    · right; exact ⟨hx, .inr ⟨by simp [hx], c_nil.1 hl⟩⟩
  · left; exact ⟨by simp [hx], fun e => absurd e hx⟩
theorem stripN_und {q p o l r a} (hp : a <+: p) (hl : l.und a) (hr : r.und a) : (stripN q p o l r).und a := by
  rcases stripN_cases q p o l r with ⟨e, _⟩ | ⟨_, ⟨e, _⟩ | ⟨e, _⟩⟩ <;> rw [e]
  · exact hp
  · exact hl
  · exact hr
theorem strip_und (f : List Bool → List UInt8 → Bool) : ∀ {T : Tr} {a : List Bool}, T.wf → T.und a → (stripT f T).und a
  | .nil, a, _, _ => trivial
  | .node p o l r, a, w, u => by
    obtain ⟨hp, ul, ur, hx, wl, wr⟩ := w
    have u' : a <+: p := u
    exact stripN_und u' (strip_und f wl (und_mono (u'.trans (List.prefix_append _ _)) ul)) (strip_und f wr (und_mono (u'.trans (List.prefix_append _ _)) ur))
theorem strip_wf (f : List Bool → List UInt8 → Bool) : ∀ {T : Tr}, T.wf → (stripT f T).wf
  | .nil, _ => trivial
  | .node p o l r, w => by
    obtain ⟨hp, ul, ur, hx, wl, wr⟩ := w
    have a := strip_wf f wl; have b := strip_wf f wr
    show (stripN _ _ _ _ _).wf
    rcases stripN_cases (f p o) p o (stripT f l) (stripT f r) with ⟨e, h⟩ | ⟨_, ⟨e, _⟩ | ⟨e, _⟩⟩ <;> rw [e]
    · exact ⟨hp, strip_und f wl ul, strip_und f wr ur, h, a, b⟩
    · exact a
    · exact b
theorem strip_has (f : List Bool → List UInt8 → Bool) : ∀ {T : Tr} {m y}, (stripT f T).has m y ↔ T.has m y ∧ f m y = false
  | .nil, m, y => ⟨fun h => h.elim, fun h => h.1.elim⟩
  | .node p o l r, m, y => by
    have a := strip_has f (T := l) (m := m) (y := y); have b := strip_has f (T := r) (m := m) (y := y)
    have key : (stripN (f p o) p o (stripT f l) (stripT f r)).has m y ↔ (m = p ∧ y = (bif f p o then [] else o) ∧ (bif f p o then [] else o) ≠ []) ∨ (stripT f l).has m y ∨ (stripT f r).has m y := by
      rcases stripN_cases (f p o) p o (stripT f l) (stripT f r) with ⟨e, h⟩ | ⟨hx, ⟨e, h⟩ | ⟨e, h⟩⟩
      · rw [e]; exact Iff.rfl
      · rw [e, h, hx]
        exact ⟨fun k => .inr (.inl k), fun k => by
          rcases k with ⟨_, _, k⟩ | k | k
          · exact absurd rfl k
          · exact k
          · exact k.elim⟩
      · rw [e, h, hx]
        exact ⟨fun k => .inr (.inr k), fun k => by
          rcases k with ⟨_, _, k⟩ | k | k
          · exact absurd rfl k
          · exact k.elim
          · exact k⟩
    show (stripN _ _ _ _ _).has m y ↔ _
    rw [key, a, b]
    constructor
    · rintro (⟨e1, e2, e3⟩ | k | k)
      · cases hq : f p o <;> rw [hq] at e2 e3
        · have e2 : y = o := e2
          exact ⟨.inl ⟨e1, e2, e3⟩, by rw [e1, e2]; exact hq⟩
        · exact absurd rfl e3
      · exact ⟨.inr (.inl k.1), k.2⟩
      · exact ⟨.inr (.inr k.1), k.2⟩
    · rintro ⟨⟨e1, e2, e3⟩ | k | k, h⟩
      · rw [e1, e2] at h
        rw [h]; exact .inl ⟨e1, e2, e3⟩
      · exact .inr (.inl ⟨k, h⟩)
      · exact .inr (.inr ⟨k, h⟩)
theorem strip_len (f : List Bool → List UInt8 → Bool) : ∀ {T : Tr}, (stripT f T).flat.length ≤ T.flat.length
  | .nil => Nat.le_refl _
  | .node p o l r => by
    have a := strip_len f (T := l); have b := strip_len f (T := r)
    show (stripN _ _ _ _ _).flat.length ≤ _
    rw [flat_len]
    rcases stripN_cases (f p o) p o (stripT f l) (stripT f r) with ⟨e, _⟩ | ⟨_, ⟨e, _⟩ | ⟨e, _⟩⟩ <;> rw [e]
    · rw [flat_len]; omega
    · omega
    · omega
theorem has_flat : ∀ {T : Tr} {m y}, T.has m y ↔ ∃ n ∈ T.flat, n.p = m ∧ n.o = y ∧ y ≠ []
  | .nil, m, y => ⟨fun h => h.elim, fun ⟨n, h, _⟩ => by rw [Tr.flat] at h; cases h⟩
  | .node p o l r, m, y => by
    have a := has_flat (T := l) (m := m) (y := y); have b := has_flat (T := r) (m := m) (y := y)
    show (_ ∨ _ ∨ _) ↔ _
    rw [a, b, Tr.flat]
    constructor
    · rintro (⟨e1, e2, e3⟩ | ⟨n, h, k⟩ | ⟨n, h, k⟩)
      · exact ⟨_, List.mem_cons_self, e1.symm, e2.symm, by rw [e2]; exact e3⟩
      · exact ⟨n, List.mem_cons_of_mem _ (List.mem_append_left _ h), k⟩
      · exact ⟨n, List.mem_cons_of_mem _ (List.mem_append_right _ h), k⟩
    · rintro ⟨n, h, e1, e2, e3⟩
      rcases List.mem_cons.1 h with rfl | h
      · exact .inl ⟨e1.symm, e2.symm, by rw [← e2] at e3; exact e3⟩
      · rcases List.mem_append.1 h with h | h
        · exact .inr (.inl ⟨n, h, e1, e2, e3⟩)
        · exact .inr (.inr ⟨n, h, e1, e2, e3⟩)
theorem has_fun : ∀ {T : Tr} {m y z}, T.wf → T.has m y → T.has m z → y = z
  | .nil, _, _, _, _, h, _ => h.elim
  | .node p o l r, m, y, z, w, h, k => by
    obtain ⟨hp, ul, ur, hx, wl, wr⟩ := w
    rcases h with ⟨e1, e2, _⟩ | h | h
    · rcases k with ⟨_, e, _⟩ | k | k
      · rw [e2, e]
      · exact absurd e1.symm (pre_ne (has_und wl ul k))
      · exact absurd e1.symm (pre_ne (has_und wr ur k))
    · rcases k with ⟨e, _⟩ | k | k
      · exact absurd e.symm (pre_ne (has_und wl ul h))
      · exact has_fun wl h k
      · have := pre_both (has_und wl ul h) (has_und wr ur k); cases this
    · rcases k with ⟨e, _⟩ | k | k
      · exact absurd e.symm (pre_ne (has_und wr ur h))
      · have := pre_both (has_und wr ur h) (has_und wl ul k); cases this
      · exact has_fun wr h k
abbrev nAt (L : List Nd) (i : Nat) : Nd := L.getD i default
/-- The nets of a list again, but for those of one owner. -/
def lvT (L : List Nd) (w : List UInt8) : Nat → Tr
  | 0 => .nil
  | i + 1 => bif !decide ((nAt L i).o = []) && !decide ((nAt L i).o = w) then putT (lvT L w i) (nAt L i).p (nAt L i).o else lvT L w i
theorem lvT_len (L : List Nd) (w : List UInt8) : ∀ i, (lvT L w i).flat.length ≤ 2 * i
  | 0 => Nat.le_refl _
  | i + 1 => by
    have := lvT_len L w i; have := putT_len (T := lvT L w i) (n := (nAt L i).p) (o := (nAt L i).o)
    unfold lvT
    cases (!decide ((nAt L i).o = []) && !decide ((nAt L i).o = w))
    · show (lvT L w i).flat.length ≤ _; omega
    · show (putT _ _ _).flat.length ≤ _; omega
theorem lvT_wf {L : List Nd} (hL : ∀ i, (nAt L i).p.length ≤ 32) (w : List UInt8) : ∀ i, (lvT L w i).wf
  | 0 => trivial
  | i + 1 => by
    have ih := lvT_wf hL w i
    unfold lvT
    cases hb : (!decide ((nAt L i).o = []) && !decide ((nAt L i).o = w))
    · exact ih
    · have hb' : (nAt L i).o ≠ [] ∧ (nAt L i).o ≠ w := by simpa using hb
      exact putT_wf ih (hL i) hb'.1
theorem nAt_mem {L : List Nd} {i : Nat} (h : i < L.length) : nAt L i ∈ L := by
  show L.getD i default ∈ L
  rw [List.getD_eq_getElem?_getD, List.getElem?_eq_getElem h]; exact List.getElem_mem h
theorem lvT_has {T : Tr} (W : T.wf) (w : List UInt8) : ∀ i, i ≤ T.flat.length → ∀ m y, (lvT T.flat w i).has m y ↔ ∃ j, j < i ∧ (nAt T.flat j).p = m ∧ (nAt T.flat j).o = y ∧ y ≠ [] ∧ y ≠ w
  | 0, _, m, y => ⟨fun h => h.elim, fun ⟨j, h, _⟩ => absurd h (Nat.not_lt_zero _)⟩
  | i + 1, hi, m, y => by
    have ih := lvT_has W w i (by omega) m y
    have wf := lvT_wf (flat_at W) w i
    unfold lvT
    cases hb : (!decide ((nAt T.flat i).o = []) && !decide ((nAt T.flat i).o = w))
    · show (lvT T.flat w i).has m y ↔ _
      rw [ih]
      constructor
      · rintro ⟨j, h, k⟩; exact ⟨j, by omega, k⟩
      · rintro ⟨j, h, k⟩
        rcases Nat.lt_or_ge j i with q | q
        · exact ⟨j, q, k⟩
        · have : j = i := by omega
          subst this
          obtain ⟨k1, k2, k3, k4⟩ := k
          rw [k2] at hb; simp [k3, k4] at hb
    · have hb' : (nAt T.flat i).o ≠ [] ∧ (nAt T.flat i).o ≠ w := by simpa using hb
      show (putT (lvT T.flat w i) (nAt T.flat i).p (nAt T.flat i).o).has m y ↔ _
      rw [putT_has wf hb'.1, ih]
      constructor
      · rintro (⟨e1, e2⟩ | ⟨_, j, h, k⟩)
        · exact ⟨i, by omega, e1.symm, e2.symm, by rw [e2]; exact hb'⟩
        · exact ⟨j, by omega, k⟩
      · rintro ⟨j, h, k1, k2, k3⟩
        by_cases e : m = (nAt T.flat i).p
        · refine .inl ⟨e, ?_⟩
          have a : T.has m y := has_flat.2 ⟨_, nAt_mem (by omega : j < T.flat.length), k1, k2, k3.1⟩
          have b : T.has m (nAt T.flat i).o := has_flat.2 ⟨_, nAt_mem (by omega : i < T.flat.length), e.symm, rfl, hb'.1⟩
          exact has_fun W a b
        · refine .inr ⟨e, j, ?_, k1, k2, k3⟩
          rcases Nat.lt_or_ge j i with q | q
          · exact q
          · have : j = i := by omega
            subst this; exact absurd k1.symm e
theorem leaves_same {T : Tr} (W : T.wf) (w : List UInt8) : stripT (fun _ o => decide (o = w)) T = lvT T.flat w T.flat.length := by
  refine wf_unique (strip_wf _ W) (lvT_wf (flat_at W) w _) fun m y => ?_
  rw [strip_has, lvT_has W w _ (Nat.le_refl _), has_flat]
  constructor
  · rintro ⟨⟨n, h, e1, e2, e3⟩, k⟩
    obtain ⟨j, hj, e⟩ := List.getElem_of_mem h
    have e' : nAt T.flat j = n := by show T.flat.getD j default = n; rw [List.getD_eq_getElem?_getD, List.getElem?_eq_getElem hj]; exact e
    exact ⟨j, hj, by rw [e']; exact e1, by rw [e']; exact e2, e3, by simpa using k⟩
  · rintro ⟨j, hj, e1, e2, e3, e4⟩
    exact ⟨⟨_, nAt_mem hj, e1, e2, e3⟩, by simpa using e4⟩
end Go.Proofs.Ytcdoobkaobiacaa
