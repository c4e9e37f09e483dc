/- Tries and maps of nets side by side, plainly. -/
import Derived.Test.YtcdoobkaobiacaaCTrieP
import Derived.Test.YtcdoobkaobiacaaCKey
import Derived.Test.YtcdoobkaobiacaaLfs
namespace Go.Proofs.Ytcdoobkaobiacaa
open Tr
set_option linter.unusedVariables false
set_option linter.unusedSimpArgs false

/-- How many nodes have an owner. -/
def ownN : Tr → Nat
  | .nil => 0
  | .node _ o l r => (if o = [] then 0 else 1) + ownN l + ownN r
theorem ownN_le : ∀ T : Tr, ownN T ≤ T.flat.length
  | .nil => Nat.zero_le _
  | .node p o l r => by
    have a := ownN_le l; have b := ownN_le r
    rw [flat_len]; unfold ownN; split <;> omega
theorem flat_own : ∀ {T : Tr}, T.wf → T.flat.length ≤ 2 * ownN T ∧ (T ≠ .nil → T.flat.length + 1 ≤ 2 * ownN T)
  | .nil, _ => ⟨by decide, fun h => absurd rfl h⟩
  | .node p o l r, w => by
    obtain ⟨_, _, _, ho, wl, wr⟩ := w
    have a := flat_own wl; have b := flat_own wr
    rw [flat_len]; unfold ownN
    by_cases h : o = []
    · have c := a.2 (ho h).1; have d := b.2 (ho h).2
      rw [if_pos h]; exact ⟨by omega, fun _ => by omega⟩
    · rw [if_neg h]; exact ⟨by omega, fun _ => by omega⟩
theorem putT_len : ∀ {T : Tr} {n : List Bool} {o : List UInt8}, (putT T n o).flat.length ≤ T.flat.length + 2
  | .nil, n, o => by unfold putT; rw [flat_len]; simp [Tr.flat]
  | .node p x l r, n, o => by
    have a := putT_len (T := l) (n := n) (o := o); have b := putT_len (T := r) (n := n) (o := o)
    unfold putT
    split
    · rw [flat_len, flat_len]; omega
    split
    · cases bitAt n p.length
      · show (Tr.node p x (putT l n o) r).flat.length ≤ _
        rw [flat_len, flat_len]; omega
      · show (Tr.node p x l (putT r n o)).flat.length ≤ _
        rw [flat_len, flat_len]; omega
    have z : Tr.nil.flat.length = 0 := rfl
    split
    · cases bitAt p n.length
      · show (Tr.node n o (.node p x l r) .nil).flat.length ≤ _
        rw [flat_len, z]; omega
      · show (Tr.node n o .nil (.node p x l r)).flat.length ≤ _
        rw [flat_len, z]; omega
    · cases bitAt n (cpre p n).length
      · show (Tr.node (cpre p n) [] (.node n o .nil .nil) (.node p x l r)).flat.length ≤ _
        rw [flat_len, flat_len n, z]; omega
      · show (Tr.node (cpre p n) [] (.node p x l r) (.node n o .nil .nil)).flat.length ≤ _
        rw [flat_len, flat_len n, z]; omega
open Classical in
theorem putT_own : ∀ {T : Tr} {n : List Bool} {o : List UInt8}, T.wf → o ≠ [] → ownN (putT T n o) = ownN T + (if ∃ y, T.has n y then 0 else 1)
  | .nil, n, o, w, ho => by
    have h : ¬ ∃ y, Tr.nil.has n y := fun ⟨y, h⟩ => h
    unfold putT; rw [if_neg h]; simp [ownN, ho]
  | .node p x l r, n, o, w, ho => by
    have W := w
    obtain ⟨hp, ul, ur, hx, wl, wr⟩ := w
    have a := putT_own (n := n) (o := o) wl ho; have b := putT_own (n := n) (o := o) wr ho
    have nl : ∀ {m y}, l.has m y → p ++ [false] <+: m := fun k => has_und wl ul k
    have nr : ∀ {m y}, r.has m y → p ++ [true] <+: m := fun k => has_und wr ur k
    have hnp : ∀ {m y}, (Tr.node p x l r).has m y → p <+: m := fun k => has_und W (List.prefix_refl p) k
    unfold putT
    split
    · rename_i e; subst e
      by_cases h : x = []
      · have k : ¬ ∃ y, (Tr.node p x l r).has p y := by
          rintro ⟨y, ⟨_, _, k⟩ | k | k⟩
          · exact k h
          · exact pre_ne (nl k) rfl
          · exact pre_ne (nr k) rfl
        rw [if_neg k]; simp [ownN, h, ho]; omega
      · have k : ∃ y, (Tr.node p x l r).has p y := ⟨x, .inl ⟨rfl, rfl, h⟩⟩
        rw [if_pos k]; simp [ownN, h, ho]
    rename_i hne
    split
    · rename_i e
      have b' := pre_bit e hne
      cases hb : bitAt n p.length <;> rw [hb] at b'
      · have k : (∃ y, (Tr.node p x l r).has n y) ↔ ∃ y, l.has n y := by
          constructor
          · rintro ⟨y, ⟨k, _⟩ | k | k⟩
            · exact absurd k.symm hne
            · exact ⟨y, k⟩
            · have := pre_both (nr k) b'; cases this
          · rintro ⟨y, k⟩; exact ⟨y, .inr (.inl k)⟩
        simp only [k]
        show ownN (.node p x (putT l n o) r) = _
        simp only [ownN, a]; omega
      · have k : (∃ y, (Tr.node p x l r).has n y) ↔ ∃ y, r.has n y := by
          constructor
          · rintro ⟨y, ⟨k, _⟩ | k | k⟩
            · exact absurd k.symm hne
            · have := pre_both (nl k) b'; cases this
            · exact ⟨y, k⟩
          · rintro ⟨y, k⟩; exact ⟨y, .inr (.inr k)⟩
        simp only [k]
        show ownN (.node p x l (putT r n o)) = _
        simp only [ownN, b]; omega
    rename_i h1
    have k : ¬ ∃ y, (Tr.node p x l r).has n y := fun ⟨y, k⟩ => h1 (hnp k)
    rw [if_neg k]
    split
    · cases bitAt p n.length
      · show ownN (.node n o (.node p x l r) .nil) = _
        simp [ownN, ho]; omega
      · show ownN (.node n o .nil (.node p x l r)) = _
        simp [ownN, ho]; omega
    · cases bitAt n (cpre p n).length
      · show ownN (.node (cpre p n) [] (.node n o .nil .nil) (.node p x l r)) = _
        simp [ownN, ho]; omega
      · show ownN (.node (cpre p n) [] (.node p x l r) (.node n o .nil .nil)) = _
        simp [ownN, ho]
def mpGet (k : UInt32 × Int) (es : NetMap) : Option (List UInt8) := (mpIdx k es).map (·.2)
theorem mpGet_nil (k : UInt32 × Int) : mpGet k [] = none := rfl
theorem mpGet_cons (k : UInt32 × Int) (e) (es : NetMap) : mpGet k (e :: es) = if k = e.1 then some e.2 else mpGet k es := by
  unfold mpGet; rw [mpIdx]
  split
  · rfl
  · cases mpIdx k es <;> rfl
theorem mpPut_nil (k : UInt32 × Int) (v : List UInt8) : mpPut k v [] = [(k, v)] := rfl
theorem mpPut_cons (k : UInt32 × Int) (v : List UInt8) (e) (es : NetMap) : mpPut k v (e :: es) = if k = e.1 then (k, v) :: es else e :: mpPut k v es := by
  unfold mpPut; rw [mpIdx]
  by_cases h : k = e.1
  · rw [if_pos h, if_pos h]; rfl
  · rw [if_neg h, if_neg h]
    cases mpIdx k es <;> rfl
theorem mpGet_put (k k' : UInt32 × Int) (v : List UInt8) : ∀ es : NetMap, mpGet k' (mpPut k v es) = if k' = k then some v else mpGet k' es
  | [] => by rw [mpPut_nil, mpGet_cons]
  | e :: es => by
    have ih := mpGet_put k k' v es
    rw [mpPut_cons]
    by_cases h : k = e.1
    · rw [if_pos h, mpGet_cons, mpGet_cons]
      by_cases h2 : k' = k
      · rw [if_pos h2, if_pos h2]
      · rw [if_neg h2, if_neg h2, if_neg (by rw [← h]; exact h2)]
    · rw [if_neg h, mpGet_cons, mpGet_cons, ih]
      by_cases h2 : k' = e.1
      · rw [if_pos h2, if_pos h2, if_neg (fun e' => h (e'.symm.trans h2))]
      · rw [if_neg h2, if_neg h2]
theorem mpPut_len (k : UInt32 × Int) (v : List UInt8) : ∀ es : NetMap, (mpPut k v es).length = es.length + (if (mpGet k es).isSome then 0 else 1)
  | [] => rfl
  | e :: es => by
    have ih := mpPut_len k v es
    rw [mpPut_cons, mpGet_cons]
    by_cases h : k = e.1
    · rw [if_pos h, if_pos h]; rfl
    · rw [if_neg h, if_neg h, List.length_cons, List.length_cons, ih]; omega
abbrev pkey (m : List Bool) : UInt32 × Int := (adr m, (m.length : Int))
theorem pkey_inj {m n : List Bool} (h : m.length ≤ 32) (e : pkey m = pkey n) : m = n := by
  have e1 := congrArg Prod.fst e; have e2 : (m.length : Int) = (n.length : Int) := congrArg Prod.snd e
  exact adr_inj (by omega) h e1
/-- A trie and a map that tell the same. -/
structure Rel (T : Tr) (es : NetMap) : Prop where
  wf : T.wf
  get : ∀ m y, m.length ≤ 32 → (T.has m y ↔ mpGet (pkey m) es = some y)
  len : ownN T = es.length
theorem has_le : ∀ {T : Tr} {m y}, T.wf → T.has m y → m.length ≤ 32
  | .nil, _, _, _, h => h.elim
  | .node p o l r, m, y, w, h => by
    rcases h with ⟨rfl, _⟩ | h | h
    · exact w.1
    · exact has_le w.2.2.2.2.1 h
    · exact has_le w.2.2.2.2.2 h
theorem Rel.nil : Rel .nil [] := ⟨trivial, fun m y _ => ⟨fun h => h.elim, fun h => by cases h⟩, rfl⟩
theorem Rel.put {T : Tr} {es : NetMap} (R : Rel T es) {n : List Bool} {o : List UInt8} (hn : n.length ≤ 32) (ho : o ≠ []) : Rel (putT T n o) (mpPut (pkey n) o es) := by
  refine ⟨putT_wf R.wf hn ho, fun m y hm => ?_, ?_⟩
  · rw [putT_has R.wf ho, mpGet_put]
    by_cases h : m = n
    · subst h; rw [if_pos rfl]
      constructor
      · rintro (⟨_, k⟩ | ⟨k, _⟩)
        · rw [k]
        · exact absurd rfl k
      · intro k; cases k; exact .inl ⟨rfl, rfl⟩
    · rw [if_neg (fun e => h (pkey_inj hm e)), ← R.get m y hm]
      constructor
      · rintro (⟨k, _⟩ | ⟨_, k⟩)
        · exact absurd k h
        · exact k
      · intro k; exact .inr ⟨h, k⟩
  · rw [putT_own R.wf ho, mpPut_len, R.len]
    congr 1
    by_cases h : ∃ y, T.has n y
    · obtain ⟨y, k⟩ := h
      rw [if_pos ⟨y, k⟩, (R.get n y hn).1 k]; rfl
    · rw [if_neg h]
      cases hk : mpGet (pkey n) es with
      | none => rfl
      | some y => exact absurd ⟨y, (R.get n y hn).2 hk⟩ h
abbrev rnet (r : RawS) : List Bool := netP r.k r.a r.b
abbrev rAt (l : List RawS) (i : Nat) : RawS := l.getD i default
def trL (l : List RawS) : Nat → Tr
  | 0 => .nil
  | i + 1 => putT (trL l i) (rnet (rAt l i)) (keyS (rAt l i).b)
def mpL (l : List RawS) : Nat → NetMap
  | 0 => []
  | i + 1 => mpPut (pkey (rnet (rAt l i))) (keyS (rAt l i).b) (mpL l i)
theorem keyS_ne (n : Int) : keyS n ≠ [] := fun e => by have := keyS_len n; rw [e] at this; cases this
theorem relL (l : List RawS) : ∀ i, Rel (trL l i) (mpL l i)
  | 0 => Rel.nil
  | i + 1 => (relL l i).put netP_len (keyS_ne _)
theorem trL_len (l : List RawS) : ∀ i, (trL l i).flat.length ≤ 2 * i
  | 0 => Nat.le_refl _
  | i + 1 => by have := trL_len l i; have := putT_len (T := trL l i) (n := rnet (rAt l i)) (o := keyS (rAt l i).b); show (putT _ _ _).flat.length ≤ _; omega
end Go.Proofs.Ytcdoobkaobiacaa
