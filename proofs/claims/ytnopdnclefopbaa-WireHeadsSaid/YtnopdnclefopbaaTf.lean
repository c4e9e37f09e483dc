/- Regions that draw their order: operations computed in the text's order; whoever is not ordered touches nothing of the other's. It names no function of the program. -/
import Derived.Test.YtnopdnclefopbaaTb
namespace Go.Proofs.Ytnopdnclefopbaa
open Go.RowKit
set_option linter.unusedVariables false
set_option linter.unusedSimpArgs false

/-- What an operation does, and what it looks at. -/
structure EF where
  sl : List (Nat × EV)
  hp : List (Nat × EB)
  rd : List Nat
  tb : List Nat
  nw : List Nat
def mixS (L : Nat → Bool) (b : List (Nat × EV)) : List EF → List (Nat × EV)
  | [] => b
  | e :: es => if L es.length = true then e.sl ++ mixS L b es else mixS L b es
def mixH (L : Nat → Bool) (b : List (Nat × EB)) : List EF → List (Nat × EB)
  | [] => b
  | e :: es => if L es.length = true then e.hp ++ mixH L b es else mixH L b es
def anyK {α : Type} (f : Nat → Bool) : List (Nat × α) → Bool
  | [] => false
  | p :: l => f p.1 || anyK f l
def anyN (f : Nat → Bool) : List Nat → Bool
  | [] => false
  | p :: l => f p || anyN f l
theorem anyK_of {α : Type} {f : Nat → Bool} {s : Nat} : ∀ {l : List (Nat × α)}, hasK s l = true → f s = true → anyK f l = true
  | [], h, _ => by cases h
  | (k, x) :: l, h, hf => by
    simp only [hasK, Bool.or_eq_true] at h
    simp only [anyK, Bool.or_eq_true]
    rcases h with h | h
    · exact .inl (by rw [nat_eq h]; exact hf)
    · exact .inr (anyK_of h hf)
theorem anyN_of {f : Nat → Bool} {s : Nat} : ∀ {l : List Nat}, s ∈ l → f s = true → anyN f l = true
  | [], h, _ => by cases h
  | k :: l, h, hf => by
    simp only [anyN, Bool.or_eq_true]
    rcases List.mem_cons.1 h with h | h
    · exact .inl (by rw [← h]; exact hf)
    · exact .inr (anyN_of h hf)
/-- Does f, that comes later in the text, touch what e touches? -/
def conf (e f : EF) : Bool :=
  anyK (fun s => memN s f.rd || hasK s f.sl) e.sl || (anyK (fun s => memN s e.rd) f.sl || (anyK (fun r => memN r f.tb || hasK r f.hp) e.hp || (anyK (fun r => memN r e.tb) f.hp || anyN (fun r => hasS r f.sl || hasH r f.hp) e.nw)))
def tbit (m i : Nat) : Bool := Nat.beq (Nat.land (Nat.shiftRight m i) 1) 1
theorem tbit_eq (m i : Nat) : tbit m i = Nat.testBit m i := by
  unfold tbit Nat.testBit
  have h : Nat.land (Nat.shiftRight m i) 1 = (m >>> i) % 2 := by
    show (m >>> i) &&& 1 = _
    exact Nat.and_one_is_mod _
  have h2 : (1 &&& m >>> i) = (m >>> i) % 2 := Nat.one_and_eq_mod_two _
  rw [h, h2]
  have := Nat.mod_two_eq_zero_or_one (m >>> i)
  rcases this with k | k <;> rw [k] <;> rfl
def pairs (m : Nat) (f : EF) : Nat → List EF → Bool
  | _, [] => true
  | 0, _ :: _ => false
  | i + 1, e :: es => (tbit m i || !conf e f) && pairs m f i es
def orM (ms : List Nat) : List Nat → Nat
  | [] => 0
  | j :: l => Nat.lor (Nat.lor (ms.getD j 0) (Nat.shiftLeft 1 j)) (orM ms l)
def ltAll (i : Nat) : List Nat → Bool
  | [] => true
  | j :: l => Nat.blt j i && ltAll i l
/-- Each mask holds such alone as the operation hangs on, at whatever distance; it hangs on earlier ones alone. -/
def masksOk (ops : Array Oper) (ms : List Nat) : Nat → Bool
  | 0 => true
  | i + 1 => (ltAll i (depsOf ops i) && Nat.beq (Nat.lor (orM ms (depsOf ops i)) (ms.getD i 0)) (orM ms (depsOf ops i))) && masksOk ops ms i
theorem ltAll_of {i : Nat} : ∀ {l : List Nat}, ltAll i l = true → ∀ j ∈ l, j < i
  | [], _, j, hj => by cases hj
  | k :: l, h, j, hj => by
    simp only [ltAll, Bool.and_eq_true] at h
    rcases List.mem_cons.1 hj with e | e
    · subst e; have := h.1; rwa [Nat.blt_eq] at this
    · exact ltAll_of h.2 j e
theorem orM_of {ms : List Nat} {k : Nat} : ∀ {l : List Nat}, Nat.testBit (orM ms l) k = true → ∃ j ∈ l, j = k ∨ Nat.testBit (ms.getD j 0) k = true
  | [], h => by simp [orM] at h
  | j :: l, h => by
    unfold orM at h
    have h : Nat.testBit (((ms.getD j 0) ||| (1 <<< j)) ||| orM ms l) k = true := h
    rw [Nat.testBit_or, Nat.testBit_or, Bool.or_eq_true, Bool.or_eq_true] at h
    rcases h with (h | h) | h
    · exact ⟨j, by simp, .inr h⟩
    · refine ⟨j, by simp, .inl ?_⟩
      rw [Nat.testBit_shiftLeft] at h
      simp only [Bool.and_eq_true, decide_eq_true_eq, Nat.testBit_one_eq_true_iff_self_eq_zero] at h
      omega
    · obtain ⟨j', h1, h2⟩ := orM_of h
      exact ⟨j', List.mem_cons_of_mem _ h1, h2⟩
theorem masksOk_at {ops : Array Oper} {ms : List Nat} {i : Nat} : ∀ {m : Nat}, masksOk ops ms m = true → i < m → (∀ j ∈ depsOf ops i, j < i) ∧ ∀ k, tbit (ms.getD i 0) k = true → Nat.testBit (orM ms (depsOf ops i)) k = true
  | 0, _, h => by omega
  | m + 1, ho, h => by
    simp only [masksOk, Bool.and_eq_true] at ho
    by_cases e : i = m
    · subst e
      refine ⟨ltAll_of ho.1.1, fun k hk => ?_⟩
      have e2 := nat_eq ho.1.2
      rw [tbit_eq] at hk
      rw [← e2]
      show Nat.testBit (_ ||| _) k = true
      rw [Nat.testBit_or, hk, Bool.or_true]
    · exact masksOk_at ho.2 (by omega)
theorem mask_in {ops : Array Oper} {ms : List Nat} {m : Nat} (ho : masksOk ops ms m = true) {L : Nat → Bool} (hL : ∀ i, i < m → L i = true → ∀ j ∈ depsOf ops i, L j = true) :
    ∀ i, i < m → (∀ j ∈ depsOf ops i, L j = true) → ∀ k, tbit (ms.getD i 0) k = true → L k = true := by
  intro i
  induction i using Nat.strongRecOn with
  | _ i ih =>
    intro hi hd k hk
    obtain ⟨h1, h2⟩ := masksOk_at ho hi
    obtain ⟨j, hj, h3⟩ := orM_of (h2 k hk)
    rcases h3 with rfl | h3
    · exact hd _ hj
    · have hji := h1 j hj
      exact ih j hji (by omega) (hL j (by omega) (hd j hj)) k (by rw [tbit_eq]; exact h3)

/-! ### The effects of some operations -/
def nthF (i : Nat) : List EF → Option EF
  | [] => none
  | e :: es => if i = es.length then some e else nthF i es
def upto (i : Nat) : List EF → List EF
  | [] => []
  | e :: es => if i ≤ es.length then upto i es else e :: es
theorem nthF_lt {i : Nat} {f : EF} : ∀ {es : List EF}, nthF i es = some f → i < es.length
  | [], h => by cases h
  | e :: es, h => by
    unfold nthF at h
    split at h
    · next k => subst k; simp
    · have := nthF_lt h; simp; omega
theorem mixS_look {L L' : Nat → Bool} {b : List (Nat × EV)} {s : Nat} : ∀ {es : List EF}, (∀ k f, nthF k es = some f → hasK s f.sl = true → L k = L' k) → look EV.any (mixS L b es) s = look EV.any (mixS L' b es) s
  | [], _ => rfl
  | e :: es, h => by
    have ih := mixS_look (L := L) (L' := L') (b := b) (s := s) (es := es) (fun k f hk hs => h k f (by
      unfold nthF; rw [if_neg (by have := nthF_lt hk; omega)]; exact hk) hs)
    have h0 := h es.length e (by simp [nthF])
    unfold mixS
    cases hs : hasK s e.sl with
    | true =>
      rw [h0 hs]
      split
      · rw [look_app, look_app, if_pos hs, if_pos hs]
      · exact ih
    | false =>
      have hn : ∀ X : List (Nat × EV), look EV.any (e.sl ++ X) s = look EV.any X s := fun X => by rw [look_app, if_neg (by rw [hs]; simp)]
      split <;> split <;> (try simp only [hn]) <;> exact ih
theorem mixH_look {L L' : Nat → Bool} {b : List (Nat × EB)} {s : Nat} : ∀ {es : List EF}, (∀ k f, nthF k es = some f → hasK s f.hp = true → L k = L' k) → look EB.dead (mixH L b es) s = look EB.dead (mixH L' b es) s
  | [], _ => rfl
  | e :: es, h => by
    have ih := mixH_look (L := L) (L' := L') (b := b) (s := s) (es := es) (fun k f hk hs => h k f (by
      unfold nthF; rw [if_neg (by have := nthF_lt hk; omega)]; exact hk) hs)
    have h0 := h es.length e (by simp [nthF])
    unfold mixH
    cases hs : hasK s e.hp with
    | true =>
      rw [h0 hs]
      split
      · rw [look_app, look_app, if_pos hs, if_pos hs]
      · exact ih
    | false =>
      have hn : ∀ X : List (Nat × EB), look EB.dead (e.hp ++ X) s = look EB.dead X s := fun X => by rw [look_app, if_neg (by rw [hs]; simp)]
      split <;> split <;> (try simp only [hn]) <;> exact ih
theorem mixS_top {L : Nat → Bool} {b : List (Nat × EV)} {s i : Nat} {e : EF} (hs : hasK s e.sl = true) : ∀ {es : List EF}, nthF i es = some e → L i = true → (∀ k f, i < k → nthF k es = some f → hasK s f.sl = true → L k = false) → look EV.any (mixS L b es) s = look EV.any e.sl s
  | [], h, _, _ => by cases h
  | f :: es, h, hi, hk => by
    unfold nthF at h
    unfold mixS
    split at h
    · next e1 => cases h; rw [← e1, if_pos hi, look_app, if_pos hs]
    · next hne =>
      have hlt := nthF_lt h
      have ih := mixS_top (L := L) (b := b) hs h hi (fun k g h1 h2 h3 => hk k g h1 (by
        unfold nthF; rw [if_neg (by have := nthF_lt h2; omega)]; exact h2) h3)
      split
      · next hL =>
        cases hf : hasK s f.sl with
        | true => rw [hk es.length f hlt (by simp [nthF]) hf] at hL; cases hL
        | false => rw [look_app, if_neg (by rw [hf]; simp)]; exact ih
      · exact ih
theorem mixH_top {L : Nat → Bool} {b : List (Nat × EB)} {s i : Nat} {e : EF} (hs : hasK s e.hp = true) : ∀ {es : List EF}, nthF i es = some e → L i = true → (∀ k f, i < k → nthF k es = some f → hasK s f.hp = true → L k = false) → look EB.dead (mixH L b es) s = look EB.dead e.hp s
  | [], h, _, _ => by cases h
  | f :: es, h, hi, hk => by
    unfold nthF at h
    unfold mixH
    split at h
    · next e1 => cases h; rw [← e1, if_pos hi, look_app, if_pos hs]
    · next hne =>
      have hlt := nthF_lt h
      have ih := mixH_top (L := L) (b := b) hs h hi (fun k g h1 h2 h3 => hk k g h1 (by
        unfold nthF; rw [if_neg (by have := nthF_lt h2; omega)]; exact h2) h3)
      split
      · next hL =>
        cases hf : hasK s f.hp with
        | true => rw [hk es.length f hlt (by simp [nthF]) hf] at hL; cases hL
        | false => rw [look_app, if_neg (by rw [hf]; simp)]; exact ih
      · exact ih
theorem upto_all : ∀ (es : List EF), upto es.length es = es
  | [] => rfl
  | e :: es => by unfold upto; rw [if_neg (by simp)]
theorem mix_upto {i : Nat} (b : List (Nat × EV)) (c : List (Nat × EB)) : ∀ (es : List EF), mixS (fun k => decide (k < i)) b es = mixS (fun _ => true) b (upto i es) ∧ mixH (fun k => decide (k < i)) c es = mixH (fun _ => true) c (upto i es)
  | [] => ⟨rfl, rfl⟩
  | e :: es => by
    obtain ⟨h1, h2⟩ := mix_upto b c es
    by_cases h : i ≤ es.length
    · have e0 : upto i (e :: es) = upto i es := by rw [upto, if_pos h]
      rw [e0]
      refine ⟨?_, ?_⟩
      · rw [← h1]
        show (if decide (es.length < i) = true then _ else _) = _
        rw [if_neg (by simp; omega)]
      · rw [← h2]
        show (if decide (es.length < i) = true then _ else _) = _
        rw [if_neg (by simp; omega)]
    · have e1 : upto i (e :: es) = e :: es := by unfold upto; rw [if_neg h]
      rw [e1]
      have hall : ∀ (l : List EF), l.length ≤ i → mixS (fun k => decide (k < i)) b l = mixS (fun _ => true) b l ∧ mixH (fun k => decide (k < i)) c l = mixH (fun _ => true) c l := by
        intro l
        induction l with
        | nil => intro _; exact ⟨rfl, rfl⟩
        | cons f l ih =>
          intro hl
          simp only [List.length_cons] at hl
          obtain ⟨k1, k2⟩ := ih (by omega)
          refine ⟨?_, ?_⟩
          · show (if decide (l.length < i) = true then _ else _) = (if true = true then _ else _)
            rw [if_pos (by simp; omega), if_pos rfl, k1]
          · show (if decide (l.length < i) = true then _ else _) = (if true = true then _ else _)
            rw [if_pos (by simp; omega), if_pos rfl, k2]
      exact hall _ (by simp only [List.length_cons]; omega)
theorem hasS_append (r : Nat) : ∀ (l m : List (Nat × EV)), hasS r (l ++ m) = (hasS r l || hasS r m)
  | [], m => by simp [hasS]
  | p :: l, m => by simp only [List.cons_append, hasS, hasS_append r l m, Bool.or_assoc]
theorem hasH_append (r : Nat) : ∀ (l m : List (Nat × EB)), hasH r (l ++ m) = (hasH r l || hasH r m)
  | [], m => by simp [hasH]
  | p :: l, m => by simp only [List.cons_append, hasH, hasH_append r l m, Bool.or_assoc]
theorem hasS_mix {r : Nat} {L : Nat → Bool} {b : List (Nat × EV)} : ∀ {es : List EF}, hasS r b = false → (∀ k f, nthF k es = some f → L k = true → hasS r f.sl = false) → hasS r (mixS L b es) = false
  | [], hb, _ => hb
  | e :: es, hb, h => by
    have ih := hasS_mix (L := L) (es := es) hb (fun k f hk hL => h k f (by unfold nthF; rw [if_neg (by have := nthF_lt hk; omega)]; exact hk) hL)
    unfold mixS
    split
    · next hL => rw [hasS_append, ih, h es.length e (by simp [nthF]) hL]; rfl
    · exact ih
theorem hasH_mix {r : Nat} {L : Nat → Bool} {b : List (Nat × EB)} : ∀ {es : List EF}, hasH r b = false → (∀ k f, nthF k es = some f → L k = true → hasH r f.hp = false) → hasH r (mixH L b es) = false
  | [], hb, _ => hb
  | e :: es, hb, h => by
    have ih := hasH_mix (L := L) (es := es) hb (fun k f hk hL => h k f (by unfold nthF; rw [if_neg (by have := nthF_lt hk; omega)]; exact hk) hL)
    unfold mixH
    split
    · next hL => rw [hasH_append, ih, h es.length e (by simp [nthF]) hL]; rfl
    · exact ih
theorem hasS_of_mix {r : Nat} {L : Nat → Bool} {b : List (Nat × EV)} : ∀ {es : List EF}, hasS r (mixS L b es) = false → hasS r b = false ∧ ∀ k f, nthF k es = some f → L k = true → hasS r f.sl = false
  | [], h => ⟨h, fun k f hk => by cases hk⟩
  | e :: es, h => by
    unfold mixS at h
    split at h
    · next hL =>
      rw [hasS_append, Bool.or_eq_false_iff] at h
      obtain ⟨h1, h2⟩ := hasS_of_mix h.2
      refine ⟨h1, fun k f hk hLk => ?_⟩
      unfold nthF at hk
      split at hk
      · cases hk; exact h.1
      · exact h2 k f hk hLk
    · next hL =>
      obtain ⟨h1, h2⟩ := hasS_of_mix h
      refine ⟨h1, fun k f hk hLk => ?_⟩
      unfold nthF at hk
      split at hk
      · next e1 => subst e1; exact absurd hLk hL
      · exact h2 k f hk hLk
theorem hasH_of_mix {r : Nat} {L : Nat → Bool} {b : List (Nat × EB)} : ∀ {es : List EF}, hasH r (mixH L b es) = false → hasH r b = false ∧ ∀ k f, nthF k es = some f → L k = true → hasH r f.hp = false
  | [], h => ⟨h, fun k f hk => by cases hk⟩
  | e :: es, h => by
    unfold mixH at h
    split at h
    · next hL =>
      rw [hasH_append, Bool.or_eq_false_iff] at h
      obtain ⟨h1, h2⟩ := hasH_of_mix h.2
      refine ⟨h1, fun k f hk hLk => ?_⟩
      unfold nthF at hk
      split at hk
      · cases hk; exact h.1
      · exact h2 k f hk hLk
    · next hL =>
      obtain ⟨h1, h2⟩ := hasH_of_mix h
      refine ⟨h1, fun k f hk hLk => ?_⟩
      unfold nthF at hk
      split at hk
      · next e1 => subst e1; exact absurd hLk hL
      · exact h2 k f hk hLk
end Go.Proofs.Ytnopdnclefopbaa
