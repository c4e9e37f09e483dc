/- A region that draws its order and holds operations that float (an alloc beside calls): one condition on the frame and the world, kept by each operation, serves every order. It names no function of the program. -/
import Derived.Test.YtnopdnclefopbaaKit
namespace Go.Proofs.Ytnopdnclefopbaa
open Go.RowKit
set_option linter.unusedVariables false
set_option linter.unusedSimpArgs false

/-- What an operation hangs on, directly. -/
def depsOf (ops : Array Oper) (i : Nat) : List Nat := ((ops[i]?).map fun o => (o.after.toList.filter fun e => Region.binds .any e).map (·.on)).getD []
def closeStep (ops : Array Oper) (s : List Nat) : List Nat := (List.range ops.size).filter fun j => s.contains j || s.any fun k => (depsOf ops k).contains j
def closeN (ops : Array Oper) : Nat → List Nat → List Nat
  | 0, s => s
  | n + 1, s => closeN ops n (closeStep ops s)
/-- The first m operations hang on earlier ones alone; each later one comes behind all of the first m. -/
def floatB (ops : Array Oper) (m : Nat) : Bool :=
  (List.range m).all (fun i => ((ops[i]?).map fun o => o.after.all fun e => !Region.binds .any e || decide (e.on < i)).getD false) &&
  (List.range ops.size).all (fun i => decide (i < m) || (List.range m).all fun j => (closeN ops m (depsOf ops i)).contains j)
theorem closeN_listed {ops : Array Oper} {L : Array Bool} (hdc : ∀ i, L.getD i false = true → ∀ j ∈ depsOf ops i, L.getD j false = true) :
    ∀ (n : Nat) (s : List Nat), (∀ j ∈ s, L.getD j false = true) → ∀ j ∈ closeN ops n s, L.getD j false = true
  | 0, _, h => h
  | n + 1, s, h => closeN_listed hdc n _ fun j hj => by
    unfold closeStep at hj
    rw [List.mem_filter] at hj
    have hj := hj.2
    rw [Bool.or_eq_true, List.any_eq_true] at hj
    rcases hj with hj | ⟨k, hk, hj⟩
    · exact h j (List.contains_iff_mem.1 hj)
    · exact hdc k (h k hk) j (List.contains_iff_mem.1 hj)
def firstM (n m : Nat) : Array Bool := (Array.range n).map (fun i => decide (i < m))
def unlisted (L : Array Bool) (m : Nat) : Nat := ((List.range m).filter fun i => !L.getD i true).length

theorem unlisted_set (L : Array Bool) (m i : Nat) (hi : i < m) (hs : i < L.size) (hL : L.getD i true = false) : unlisted (L.setIfInBounds i true) m + 1 = unlisted L m := by
  unfold unlisted
  have e : ∀ j, (L.setIfInBounds i true).getD j true = (if i = j then true else L.getD j true) := fun j => by
    simp only [Array.getD_eq_getD_getElem?, Array.getElem?_setIfInBounds]
    by_cases h : i = j
    · subst h; simp [hs]
    · simp [h]
  simp only [e]
  clear e
  induction m with
  | zero => omega
  | succ m ih =>
    rw [List.range_succ, List.filter_append, List.filter_append, List.length_append, List.length_append]
    by_cases h : i = m
    · subst h
      have : List.filter (fun j => !(if i = j then true else L.getD j true)) (List.range i) = List.filter (fun j => !L.getD j true) (List.range i) := by
        apply List.filter_congr; intro j hj; have := List.mem_range.1 hj; rw [if_neg (by omega)]
      rw [this]; rw [Array.getD_eq_getD_getElem?] at hL; simp [hL]
    · have := ih (by omega)
      rw [← this]; simp [List.filter_cons, h]; omega

section
variable {P : Program} {ops : Array Oper} {Q : Exit → Act → World → Prop} {S : World → Prop}

theorem wpAny_float {m : Nat} (hf : floatB ops m = true) (hm : m ≤ ops.size) (Inv : (Nat → Bool) → Act → World → Prop)
    (step : ∀ (L : Nat → Bool) a w i o (K : Act → World → Prop), i < m → ops[i]? = some o → L i = false → (o.after.all fun e => !Region.binds .any e || L e.on) = true → Inv L a w →
      (∀ a w, Inv (fun j => j == i || L j) a w → K a w) → if Region.wanted o (yielded ops a.tmps) = true then Oper.wp P o a w K Q else K (a.put o.dst undef) w)
    (fin : ∀ L a w, (∀ i, i < m → L i = true) → Inv L a w → wpAny P .any ops Q (ops.size - m) (firstM ops.size m) a w) :
    ∀ (f : Nat) (L : Array Bool) (a : Act) (w : World), L.size = ops.size → (∀ i, m ≤ i → i < ops.size → L.getD i true = false) → (∀ i, L.getD i false = true → ∀ j ∈ depsOf ops i, L.getD j false = true) → unlisted L m = f → Inv (fun i => L.getD i true) a w →
      wpAny P .any ops Q (f + (ops.size - m)) L a w := by
  unfold floatB at hf
  simp only [Bool.and_eq_true, List.all_eq_true, List.mem_range] at hf
  obtain ⟨hlow, hhigh⟩ := hf
  intro f
  induction f with
  | zero =>
    intro L a w hs hh hdc hu hI
    have hall : ∀ i, i < m → L.getD i true = true := by
      intro i hi
      have h0 : (List.range m).filter (fun i => !L.getD i true) = [] := List.length_eq_zero_iff.1 hu
      rw [List.filter_eq_nil_iff] at h0
      simpa using h0 i (List.mem_range.2 hi)
    have hL : L = firstM ops.size m := by
      apply Array.ext
      · simp [firstM, hs]
      · intro i h1 h2
        have hi : i < ops.size := by omega
        simp only [firstM, Array.getElem_map, Array.getElem_range]
        by_cases h : i < m
        · have := hall i h; rw [Array.getD_eq_getD_getElem?, Array.getElem?_eq_getElem h1] at this; simpa [h] using this
        · have := hh i (by omega) hi; rw [Array.getD_eq_getD_getElem?, Array.getElem?_eq_getElem h1] at this; simpa [h] using this
    rw [Nat.zero_add, hL]
    exact fin _ a w hall hI
  | succ f ih =>
    intro L a w hs hh hdc hu hI
    rw [show f + 1 + (ops.size - m) = (f + (ops.size - m)) + 1 from by omega]
    -- somebody is ready
    have hex : ∃ i, i < m ∧ L.getD i true = false := by
      refine Classical.byContradiction fun hn => ?_
      have : (List.range m).filter (fun i => !L.getD i true) = [] := by
        rw [List.filter_eq_nil_iff]; intro i hi
        have hi := List.mem_range.1 hi
        cases h : L.getD i true with
        | true => simp
        | false => exact absurd ⟨i, hi, h⟩ hn
      unfold unlisted at hu; rw [this] at hu; simp at hu
    have hready : Region.ready .any ops L ≠ [] := by
      -- the least one
      have hmin : ∀ n i, i ≤ n → i < m → L.getD i true = false → ∃ k, k < m ∧ L.getD k true = false ∧ ∀ j, j < k → L.getD j true = true := by
        intro n
        induction n with
        | zero => intro i h0 h1 h2; exact ⟨i, h1, h2, fun j hj => by omega⟩
        | succ n ihn =>
          intro i h0 h1 h2
          by_cases hq : ∃ j, j < i ∧ L.getD j true = false
          · obtain ⟨j, hj, hj2⟩ := hq; exact ihn j (by omega) (by omega) hj2
          · refine ⟨i, h1, h2, fun j hj => ?_⟩
            cases h : L.getD j true with
            | true => rfl
            | false => exact absurd ⟨j, hj, h⟩ hq
      obtain ⟨i, hi, hi2⟩ := hex
      obtain ⟨k, hk, hk2, hk3⟩ := hmin i i (Nat.le_refl _) hi hi2
      have : k ∈ Region.ready .any ops L := by
        unfold Region.ready
        rw [List.mem_filter]
        refine ⟨List.mem_range.2 (by omega), ?_⟩
        rw [hk2]
        have h1 := hlow k hk
        cases ho : ops[k]? with
        | none => rw [ho] at h1; simp at h1
        | some o =>
          rw [ho] at h1
          simp only [Option.map_some, Option.getD_some, Bool.not_false, Bool.true_and, Array.all_eq_true] at h1 ⊢
          intro e he
          have h2 := h1 e he
          simp only [Bool.or_eq_true, Bool.not_eq_true', decide_eq_true_eq] at h2 ⊢
          rcases h2 with h2 | h2
          · exact .inl h2
          · refine .inr ?_
            have h3 := hk3 _ h2
            have h4 : (o.after[e]).on < L.size := by omega
            rw [Array.getD_eq_getD_getElem?, Array.getElem?_eq_getElem h4] at h3 ⊢
            simpa using h3
      intro h; rw [h] at this; cases this
    refine ⟨fun h => absurd h hready, fun i hi => ?_⟩
    unfold Region.ready at hi
    rw [List.mem_filter] at hi
    obtain ⟨hi1, hi2⟩ := hi
    have hi1 := List.mem_range.1 hi1
    simp only [Bool.and_eq_true, Bool.not_eq_true'] at hi2
    obtain ⟨hi2, hi3⟩ := hi2
    have hready2 : ∀ j ∈ depsOf ops i, L.getD j false = true := by
      unfold depsOf
      cases ho : ops[i]? with
      | none => simp
      | some o =>
        rw [ho] at hi3
        simp only [Option.map_some, Option.getD_some, Array.all_eq_true, Bool.or_eq_true, Bool.not_eq_true'] at hi3 ⊢
        intro j hj
        rw [List.mem_map] at hj
        obtain ⟨e, he, rfl⟩ := hj
        rw [List.mem_filter] at he
        obtain ⟨x, hx, hx2⟩ := Array.mem_iff_getElem.1 (Array.mem_def.2 he.1)
        rcases hi3 x hx with h2 | h2
        · rw [hx2, he.2] at h2; cases h2
        · rw [hx2] at h2; exact h2
    have him : i < m := by
      refine Classical.byContradiction fun hn => ?_
      obtain ⟨k, hk, hk2⟩ := hex
      have h1 := hhigh i hi1
      simp only [Bool.or_eq_true, decide_eq_true_eq, hn, false_or, List.all_eq_true, List.mem_range] at h1
      have h2 := closeN_listed hdc m (depsOf ops i) hready2 k (List.contains_iff_mem.1 (h1 k hk))
      have h4 : k < L.size := by omega
      rw [Array.getD_eq_getD_getElem?, Array.getElem?_eq_getElem h4] at h2 hk2
      simp at h2 hk2; rw [h2] at hk2; cases hk2
    cases ho : ops[i]? with
    | none => rw [ho] at hi3; simp at hi3
    | some o =>
      refine wpOp_step ho fun K' hK' => ?_
      rw [ho] at hi3
      have hd : (o.after.all fun e => !Region.binds .any e || L.getD e.on true) = true := by
        simp only [Option.map_some, Option.getD_some, Array.all_eq_true, Bool.or_eq_true, Bool.not_eq_true'] at hi3 ⊢
        intro e he
        rcases hi3 e he with h2 | h2
        · exact .inl h2
        · refine .inr ?_
          rw [Array.getD_eq_getD_getElem?] at h2 ⊢
          cases h5 : L[o.after[e].on]? with
          | none => rw [h5] at h2; simp at h2
          | some b => rw [h5] at h2; simpa using h2
      refine step _ a w i o K' him ho hi2 hd hI fun a' w' hI' => hK' a' w' (ih _ a' w' (by simp [hs]) ?_ ?_ ?_ ?_)
      · intro j hj hj2
        rw [Array.getD_eq_getD_getElem?, Array.getElem?_setIfInBounds, if_neg (by omega), ← Array.getD_eq_getD_getElem?]
        exact hh j hj hj2
      · intro k hk j hj
        have hmon : ∀ j, L.getD j false = true → (L.setIfInBounds i true).getD j false = true := fun j h => by
          simp only [Array.getD_eq_getD_getElem?, Array.getElem?_setIfInBounds] at h ⊢
          by_cases h1 : i = j
          · subst h1; simp [show i < L.size by omega]
          · rw [if_neg h1]; exact h
        by_cases h1 : i = k
        · subst h1; exact hmon j (hready2 j hj)
        · refine hmon j (hdc k ?_ j hj)
          simp only [Array.getD_eq_getD_getElem?, Array.getElem?_setIfInBounds, if_neg h1] at hk ⊢; exact hk
      · have := unlisted_set L m i him (by omega) hi2; omega
      · have e : (fun j => (L.setIfInBounds i true).getD j true) = (fun j => j == i || L.getD j true) := by
          funext j
          simp only [Array.getD_eq_getD_getElem?, Array.getElem?_setIfInBounds]
          by_cases h : i = j
          · subst h; simp [show i < L.size by omega]
          · simp [h, Ne.symm h]
        rw [e]; exact hI'

theorem unlisted_none (n m : Nat) (h : m ≤ n) : unlisted (Array.replicate n false) m = m := by
  unfold unlisted
  rw [List.filter_eq_self.2, List.length_range]
  intro i hi
  have := List.mem_range.1 hi
  rw [Array.getD_eq_getD_getElem?, Array.getElem?_replicate, if_pos (by omega)]; rfl

/-- **ONE CONDITION, KEPT BY EACH OPERATION, SERVES EVERY ORDER**; behind the first m the rest comes in order. -/
theorem wp_region_float {m id : Nat} {a : Act} {w : World} (hx : P.follows .mixedOrders = true) (hf : floatB ops m = true) (hm : decide (m ≤ ops.size) = true) (Inv : (Nat → Bool) → Act → World → Prop)
    (h0 : ∀ L : Nat → Bool, (∀ i, i < m → L i = false) → Inv L a w.drew)
    (step : ∀ (L : Nat → Bool) a w i o (K : Act → World → Prop), i < m → ops[i]? = some o → L i = false → (o.after.all fun e => !Region.binds .any e || L e.on) = true → Inv L a w →
      (∀ a w, Inv (fun j => j == i || L j) a w → K a w) → if Region.wanted o (yielded ops a.tmps) = true then Oper.wp P o a w K Q else K (a.put o.dst undef) w)
    (fin : ∀ L a w, (∀ i, i < m → L i = true) → Inv L a w → wpAnyH P .any ops Q S (ops.size - m) (firstM ops.size m) a w) : (Code.region id ops true).wp P Q a w := by
  have hm := of_decide_eq_true hm
  have h := wpAny_float hf hm Inv step (fun L a w h1 h2 => wpAny_of_held _ _ _ _ (fin L a w h1 h2)) m (Array.replicate ops.size false) a w.drew (by simp) (fun i _ h2 => by
      rw [Array.getD_eq_getD_getElem?, Array.getElem?_replicate, if_pos h2]; rfl) (fun i hi => by
      rw [Array.getD_eq_getD_getElem?, Array.getElem?_replicate] at hi; split at hi <;> simp at hi) (unlisted_none _ _ hm) (h0 _ (fun i hi => by
      rw [Array.getD_eq_getD_getElem?, Array.getElem?_replicate, if_pos (by omega)]; rfl))
  rw [show m + (ops.size - m) = ops.size from by omega] at h
  exact wp_region_any hx h
end
end Go.Proofs.Ytnopdnclefopbaa
