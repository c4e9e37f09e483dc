/- Tries of nets, plainly: nets are paths of bits. It names no function of the program. -/
import Derived.Test.YtcebndkiagbddaaDoorMathJoin
namespace Go.Proofs.YtcebndkiagbddaaDoor
set_option linter.unusedVariables false
set_option linter.unusedSimpArgs false

inductive Tr where
  | nil : Tr
  | node : List Bool → List UInt8 → Tr → Tr → Tr
structure Nd where
  p : List Bool
  o : List UInt8
  s : Nat
  deriving Inhabited
namespace Tr
def flat : Tr → List Nd
  | nil => []
  | node p o l r => ⟨p, o, l.flat.length + r.flat.length + 1⟩ :: (l.flat ++ r.flat)
def und (q : List Bool) : Tr → Prop
  | nil => True
  | node p _ _ _ => q <+: p
def wf : Tr → Prop
  | nil => True
  | node p o l r => p.length ≤ 32 ∧ l.und (p ++ [false]) ∧ r.und (p ++ [true]) ∧ (o = [] → l ≠ nil ∧ r ≠ nil) ∧ l.wf ∧ r.wf
/-- A net that is owned. -/
def has : Tr → List Bool → List UInt8 → Prop
  | nil, _, _ => False
  | node p o l r, m, y => (m = p ∧ y = o ∧ o ≠ []) ∨ l.has m y ∨ r.has m y
end Tr
open Tr
abbrev bitAt (q : List Bool) (k : Nat) : Bool := q.getD k false
def cpre : List Bool → List Bool → List Bool
  | a :: p, b :: q => if a = b then a :: cpre p q else []
  | _, _ => []
def leafT (n : List Bool) (o : List UInt8) : Tr := .node n o .nil .nil
def putT : Tr → List Bool → List UInt8 → Tr
  | .nil, n, o => .node n o .nil .nil
  | .node p x l r, n, o =>
    if p = n then .node n o l r
    else if p <+: n then bif bitAt n p.length then .node p x l (putT r n o) else .node p x (putT l n o) r
    else if n <+: p then bif bitAt p n.length then .node n o .nil (.node p x l r) else .node n o (.node p x l r) .nil
    else bif bitAt n (cpre p n).length then .node (cpre p n) [] (.node p x l r) (.node n o .nil .nil) else .node (cpre p n) [] (.node n o .nil .nil) (.node p x l r)
theorem cpre_l : ∀ p q : List Bool, cpre p q <+: p
  | [], _ => by unfold cpre; exact List.nil_prefix
  | _ :: _, [] => by unfold cpre; exact List.nil_prefix
  | a :: p, b :: q => by
    unfold cpre
    by_cases h : a = b
    · rw [if_pos h]; exact List.cons_prefix_cons.2 ⟨rfl, cpre_l p q⟩
    · rw [if_neg h]; exact List.nil_prefix
theorem cpre_r : ∀ p q : List Bool, cpre p q <+: q
  | [], _ => by unfold cpre; exact List.nil_prefix
  | _ :: _, [] => by unfold cpre; exact List.nil_prefix
  | a :: p, b :: q => by
    unfold cpre
    by_cases h : a = b
    · rw [if_pos h, ← h]; exact List.cons_prefix_cons.2 ⟨rfl, cpre_r p q⟩
    · rw [if_neg h]; exact List.nil_prefix
theorem cpre_max : ∀ {f p q : List Bool}, f <+: p → f <+: q → f <+: cpre p q
  | [], _, _, _, _ => List.nil_prefix
  | a :: f, [], _, h, _ => by simp at h
  | a :: f, _ :: _, [], _, h => by simp at h
  | a :: f, b :: p, c :: q, h1, h2 => by
    obtain ⟨e1, k1⟩ := List.cons_prefix_cons.1 h1
    obtain ⟨e2, k2⟩ := List.cons_prefix_cons.1 h2
    unfold cpre; rw [if_pos (e1.symm.trans e2)]
    exact List.cons_prefix_cons.2 ⟨e1, cpre_max k1 k2⟩
/-- A net that is larger, but not the other one, holds one half of it. -/
theorem pre_bit {p n : List Bool} (h : p <+: n) (hne : p ≠ n) : p ++ [bitAt n p.length] <+: n := by
  obtain ⟨t, rfl⟩ := h
  cases t with
  | nil => simp at hne
  | cons a t =>
    have : bitAt (p ++ a :: t) p.length = a := by unfold bitAt; rw [List.getD_eq_getElem?_getD, List.getElem?_append_right (Nat.le_refl _)]; simp
    rw [this]
    exact ⟨t, by simp⟩
theorem bit_of {p n : List Bool} {b : Bool} (h : p ++ [b] <+: n) : bitAt n p.length = b := by
  obtain ⟨t, rfl⟩ := h
  unfold bitAt; rw [List.getD_eq_getElem?_getD, List.append_assoc, List.getElem?_append_right (Nat.le_refl _)]; simp
theorem pre_of {p n : List Bool} {b : Bool} (h : p ++ [b] <+: n) : p <+: n := (List.prefix_append p [b]).trans h
theorem pre_ne {p n : List Bool} {b : Bool} (h : p ++ [b] <+: n) : p ≠ n := by
  rintro rfl
  have := h.length_le
  simp at this
  omega
theorem pre_both {p n : List Bool} {b c : Bool} (h : p ++ [b] <+: n) (h' : p ++ [c] <+: n) : b = c := (bit_of h).symm.trans (bit_of h')
theorem pre_antisymm {p q : List Bool} (h : p <+: q) (h' : q <+: p) : p = q := h.eq_of_length_le h'.length_le
theorem cpre_bits {p n : List Bool} (h1 : ¬ p <+: n) (h2 : ¬ n <+: p) : cpre p n ++ [bitAt p (cpre p n).length] <+: p ∧ cpre p n ++ [bitAt n (cpre p n).length] <+: n ∧ bitAt p (cpre p n).length = !bitAt n (cpre p n).length := by
  have a := pre_bit (cpre_l p n) (fun e => h1 (by rw [← e]; exact cpre_r p n))
  have b := pre_bit (cpre_r p n) (fun e => h2 (by rw [← e]; exact cpre_l p n))
  refine ⟨a, b, ?_⟩
  cases hp : bitAt p (cpre p n).length <;> cases hn : bitAt n (cpre p n).length <;> first | rfl | exfalso
  all_goals
    rw [hp] at a; rw [hn] at b
    have := (cpre_max a b).length_le
    simp at this
    omega
theorem und_mono {q q' : List Bool} (h : q <+: q') : ∀ {T : Tr}, T.und q' → T.und q
  | .nil, _ => trivial
  | .node _ _ _ _, k => h.trans k
theorem has_und : ∀ {T : Tr} {q m : List Bool} {y : List UInt8}, T.wf → T.und q → T.has m y → q <+: m
  | .nil, _, _, _, _, _, h => h.elim
  | .node p o l r, q, m, y, w, u, h => by
    obtain ⟨_, ul, ur, _, wl, wr⟩ := w
    rcases h with ⟨rfl, _⟩ | h | h
    · exact u
    · exact List.IsPrefix.trans u (pre_of (has_und wl ul h))
    · exact List.IsPrefix.trans u (pre_of (has_und wr ur h))
theorem has_some : ∀ {T : Tr}, T.wf → T ≠ .nil → ∃ m y, T.has m y
  | .nil, _, h => absurd rfl h
  | .node p o l r, w, _ => by
    obtain ⟨_, ul, ur, ho, wl, wr⟩ := w
    by_cases h : o = []
    · obtain ⟨m, y, k⟩ := has_some wl (ho h).1
      exact ⟨m, y, .inr (.inl k)⟩
    · exact ⟨p, o, .inl ⟨rfl, rfl, h⟩⟩
theorem putT_ne : ∀ {T : Tr} {n : List Bool} {o : List UInt8}, putT T n o ≠ .nil
  | .nil, n, o => by unfold putT; intro h; cases h
  | .node p x l r, n, o => by
    unfold putT
    repeat' split
    all_goals first | (intro h; cases h; done) | (cases bitAt n p.length <;> intro h <;> cases h; done) | (cases bitAt p n.length <;> intro h <;> cases h; done) | (cases bitAt n (cpre p n).length <;> intro h <;> cases h; done)
theorem putT_und : ∀ {T : Tr} {q n : List Bool} {o : List UInt8}, T.und q → q <+: n → (putT T n o).und q
  | .nil, q, n, o, _, h => by unfold putT; exact h
  | .node p x l r, q, n, o, u, h => by
    have u' : q <+: p := u
    unfold putT
    split
    · exact h
    split
    · cases bitAt n p.length <;> exact u'
    split
    · cases bitAt p n.length <;> exact h
    · cases bitAt n (cpre p n).length <;> exact cpre_max u' h
theorem putT_wf : ∀ {T : Tr} {n : List Bool} {o : List UInt8}, T.wf → n.length ≤ 32 → o ≠ [] → (putT T n o).wf
  | .nil, n, o, w, h, ho => by unfold putT; exact ⟨h, trivial, trivial, fun e => absurd e ho, trivial, trivial⟩
  | .node p x l r, n, o, w, h, ho => by
    have W := w
    obtain ⟨hp, ul, ur, hx, wl, wr⟩ := w
    unfold putT
    split
    · rename_i e; subst e; exact ⟨h, ul, ur, fun e => absurd e ho, wl, wr⟩
    rename_i hne
    split
    · rename_i e
      have b := pre_bit e hne
      cases hb : bitAt n p.length <;> rw [hb] at b
      · exact ⟨hp, putT_und ul b, ur, fun e => ⟨putT_ne, (hx e).2⟩, putT_wf wl h ho, wr⟩
      · exact ⟨hp, ul, putT_und ur b, fun e => ⟨(hx e).1, putT_ne⟩, wl, putT_wf wr h ho⟩
    rename_i h1
    split
    · rename_i e
      have b := pre_bit e (Ne.symm hne)
      cases hb : bitAt p n.length <;> rw [hb] at b
      · exact ⟨h, b, trivial, fun e => absurd e ho, W, trivial⟩
      · exact ⟨h, trivial, b, fun e => absurd e ho, trivial, W⟩
    · rename_i h2
      obtain ⟨a, b, c⟩ := cpre_bits h1 h2
      have hl : (cpre p n).length ≤ 32 := Nat.le_trans (cpre_r p n).length_le h
      cases hb : bitAt n (cpre p n).length <;> rw [hb] at b c <;> rw [c] at a
      · exact ⟨hl, b, a, fun _ => ⟨fun e => (by cases e), fun e => (by cases e)⟩, ⟨h, trivial, trivial, fun e => absurd e ho, trivial, trivial⟩, W⟩
      · exact ⟨hl, a, b, fun _ => ⟨fun e => (by cases e), fun e => (by cases e)⟩, W, ⟨h, trivial, trivial, fun e => absurd e ho, trivial, trivial⟩⟩
theorem putT_has : ∀ {T : Tr} {n m : List Bool} {o y : List UInt8}, T.wf → o ≠ [] → ((putT T n o).has m y ↔ (m = n ∧ y = o) ∨ (m ≠ n ∧ T.has m y))
  | .nil, n, m, o, y, w, ho => by
    unfold putT
    constructor
    · rintro (⟨a, b, _⟩ | h | h)
      · exact .inl ⟨a, b⟩
      · exact h.elim
      · exact h.elim
    · rintro (⟨a, b⟩ | ⟨_, h⟩)
      · exact .inl ⟨a, b, ho⟩
      · exact h.elim
  | .node p x l r, n, m, o, y, w, ho => by
    have W := w
    obtain ⟨hp, ul, ur, hx, wl, wr⟩ := w
    have nl : ∀ {m y}, l.has m y → m ≠ p := fun k e => pre_ne (has_und wl ul k) e.symm
    have nr : ∀ {m y}, r.has m y → m ≠ p := fun k e => pre_ne (has_und wr ur k) e.symm
    unfold putT
    split
    · rename_i e; subst e
      constructor
      · rintro (⟨a, b, _⟩ | k | k)
        · exact .inl ⟨a, b⟩
        · exact .inr ⟨nl k, .inr (.inl k)⟩
        · exact .inr ⟨nr k, .inr (.inr k)⟩
      · rintro (⟨a, b⟩ | ⟨hm, k | k | k⟩)
        · exact .inl ⟨a, b, ho⟩
        · exact absurd k.1 hm
        · exact .inr (.inl k)
        · exact .inr (.inr k)
    rename_i hne
    split
    · rename_i e
      have b := pre_bit e hne
      cases hb : bitAt n p.length <;> rw [hb] at b
      · have ih := putT_has (T := l) (n := n) (m := m) (o := o) (y := y) wl ho
        have nn : ∀ {m y}, r.has m y → m ≠ n := fun k e => by have := pre_both (has_und wr ur k) (by rw [e]; exact b); cases this
        show (_ ∨ (putT l n o).has m y ∨ _) ↔ _ ∨ (_ ∧ (_ ∨ _ ∨ _))
        rw [ih]
        constructor
        · rintro (k | (k | k) | k)
          · exact .inr ⟨by rw [k.1]; exact hne, .inl k⟩
          · exact .inl k
          · exact .inr ⟨k.1, .inr (.inl k.2)⟩
          · exact .inr ⟨nn k, .inr (.inr k)⟩
        · rintro (k | ⟨hm, k | k | k⟩)
          · exact .inr (.inl (.inl k))
          · exact .inl k
          · exact .inr (.inl (.inr ⟨hm, k⟩))
          · exact .inr (.inr k)
      · have ih := putT_has (T := r) (n := n) (m := m) (o := o) (y := y) wr ho
        have nn : ∀ {m y}, l.has m y → m ≠ n := fun k e => by have := pre_both (has_und wl ul k) (by rw [e]; exact b); cases this
        show (_ ∨ _ ∨ (putT r n o).has m y) ↔ _ ∨ (_ ∧ (_ ∨ _ ∨ _))
        rw [ih]
        constructor
        · rintro (k | k | (k | k))
          · exact .inr ⟨by rw [k.1]; exact hne, .inl k⟩
          · exact .inr ⟨nn k, .inr (.inl k)⟩
          · exact .inl k
          · exact .inr ⟨k.1, .inr (.inr k.2)⟩
        · rintro (k | ⟨hm, k | k | k⟩)
          · exact .inr (.inr (.inl k))
          · exact .inl k
          · exact .inr (.inl k)
          · exact .inr (.inr (.inr ⟨hm, k⟩))
    rename_i h1
    have hnp : ∀ {m y}, (Tr.node p x l r).has m y → p <+: m := fun k => has_und W (List.prefix_refl p) k
    split
    · rename_i e
      have hmn : ∀ {m y}, (Tr.node p x l r).has m y → m ≠ n := fun k e' => h1 (by rw [← e']; exact hnp k)
      cases bitAt p n.length
      · constructor
        · rintro (⟨a, b, _⟩ | k | k)
          · exact .inl ⟨a, b⟩
          · exact .inr ⟨hmn k, k⟩
          · exact k.elim
        · rintro (⟨a, b⟩ | ⟨_, k⟩)
          · exact .inl ⟨a, b, ho⟩
          · exact .inr (.inl k)
      · constructor
        · rintro (⟨a, b, _⟩ | k | k)
          · exact .inl ⟨a, b⟩
          · exact k.elim
          · exact .inr ⟨hmn k, k⟩
        · rintro (⟨a, b⟩ | ⟨_, k⟩)
          · exact .inl ⟨a, b, ho⟩
          · exact .inr (.inr k)
    · rename_i h2
      have hmn : ∀ {m y}, (Tr.node p x l r).has m y → m ≠ n := fun k e' => h1 (by rw [← e']; exact hnp k)
      cases bitAt n (cpre p n).length
      · constructor
        · rintro (⟨_, _, k⟩ | (⟨a, b, _⟩ | k | k) | k)
          · exact absurd rfl k
          · exact .inl ⟨a, b⟩
          · exact k.elim
          · exact k.elim
          · exact .inr ⟨hmn k, k⟩
        · rintro (⟨a, b⟩ | ⟨_, k⟩)
          · exact .inr (.inl (.inl ⟨a, b, ho⟩))
          · exact .inr (.inr k)
      · constructor
        · rintro (⟨_, _, k⟩ | k | (⟨a, b, _⟩ | k | k))
          · exact absurd rfl k
          · exact .inr ⟨hmn k, k⟩
          · exact .inl ⟨a, b⟩
          · exact k.elim
          · exact k.elim
        · rintro (⟨a, b⟩ | ⟨_, k⟩)
          · exact .inr (.inr (.inl ⟨a, b, ho⟩))
          · exact .inr (.inl k)
/-- The root's net is the longest that all owned nets share. -/
theorem root_pre {p o l r q} (w : (Tr.node p o l r).wf) (h : ∀ m y, (Tr.node p o l r).has m y → q <+: m) : q <+: p := by
  obtain ⟨hp, ul, ur, hx, wl, wr⟩ := w
  by_cases ho : o = []
  · obtain ⟨m1, y1, k1⟩ := has_some wl (hx ho).1
    obtain ⟨m2, y2, k2⟩ := has_some wr (hx ho).2
    have a1 := has_und wl ul k1
    have a2 := has_und wr ur k2
    have b1 := h m1 y1 (.inr (.inl k1))
    have b2 := h m2 y2 (.inr (.inr k2))
    rcases Nat.lt_or_ge p.length q.length with hl | hl
    · exfalso
      have c1 := List.prefix_of_prefix_length_le a1 b1 (by simp; omega)
      have c2 := List.prefix_of_prefix_length_le a2 b2 (by simp; omega)
      have := pre_both c1 c2
      cases this
    · exact List.prefix_of_prefix_length_le b1 (pre_of a1) hl
  · exact h p o (.inl ⟨rfl, rfl, ho⟩)
/-- A trie is determined by what it owns. -/
theorem wf_unique : ∀ {T S : Tr}, T.wf → S.wf → (∀ m y, T.has m y ↔ S.has m y) → T = S
  | .nil, .nil, _, _, _ => rfl
  | .nil, .node p o l r, _, w, h => by
    obtain ⟨m, y, k⟩ := has_some w (fun e => by cases e)
    exact ((h m y).2 k).elim
  | .node p o l r, .nil, w, _, h => by
    obtain ⟨m, y, k⟩ := has_some w (fun e => by cases e)
    exact ((h m y).1 k).elim
  | .node p o l r, .node p' o' l' r', w, w', h => by
    have e1 : p = p' := pre_antisymm (root_pre w' fun m y k => has_und w (List.prefix_refl p) ((h m y).2 k)) (root_pre w fun m y k => has_und w' (List.prefix_refl p') ((h m y).1 k))
    subst e1
    obtain ⟨_, ul, ur, hx, wl, wr⟩ := w
    obtain ⟨_, ul', ur', hx', wl', wr'⟩ := w'
    have nl : ∀ {m y}, l.has m y → m ≠ p := fun k e => pre_ne (has_und wl ul k) e.symm
    have nr : ∀ {m y}, r.has m y → m ≠ p := fun k e => pre_ne (has_und wr ur k) e.symm
    have nl' : ∀ {m y}, l'.has m y → m ≠ p := fun k e => pre_ne (has_und wl' ul' k) e.symm
    have nr' : ∀ {m y}, r'.has m y → m ≠ p := fun k e => pre_ne (has_und wr' ur' k) e.symm
    have e2 : o = o' := by
      by_cases ho : o = []
      · by_cases ho' : o' = []
        · rw [ho, ho']
        · rcases (h p o').2 (.inl ⟨rfl, rfl, ho'⟩) with ⟨_, k, _⟩ | k | k
          · exact k.symm
          · exact absurd rfl (nl k)
          · exact absurd rfl (nr k)
      · rcases (h p o).1 (.inl ⟨rfl, rfl, ho⟩) with ⟨_, k, _⟩ | k | k
        · exact k
        · exact absurd rfl (nl' k)
        · exact absurd rfl (nr' k)
    have e3 : l = l' := wf_unique wl wl' fun m y => by
      constructor
      · intro k
        rcases (h m y).1 (.inr (.inl k)) with ⟨a, _⟩ | k' | k'
        · exact absurd a (nl k)
        · exact k'
        · have := pre_both (has_und wl ul k) (has_und wr' ur' k'); cases this
      · intro k
        rcases (h m y).2 (.inr (.inl k)) with ⟨a, _⟩ | k' | k'
        · exact absurd a (nl' k)
        · exact k'
        · have := pre_both (has_und wl' ul' k) (has_und wr ur k'); cases this
    have e4 : r = r' := wf_unique wr wr' fun m y => by
      constructor
      · intro k
        rcases (h m y).1 (.inr (.inr k)) with ⟨a, _⟩ | k' | k'
        · exact absurd a (nr k)
        · have := pre_both (has_und wr ur k) (has_und wl' ul' k'); cases this
        · exact k'
      · intro k
        rcases (h m y).2 (.inr (.inr k)) with ⟨a, _⟩ | k' | k'
        · exact absurd a (nr' k)
        · have := pre_both (has_und wr' ur' k) (has_und wl ul k'); cases this
        · exact k'
    rw [e2, e3, e4]
end Go.Proofs.YtcebndkiagbddaaDoor
