/- States weakened, with names turned. It names no function of the program. -/
import Derived.Test.YtnopdnclefopbaaTx
namespace Go.Proofs.Ytnopdnclefopbaa
open Go.RowKit
set_option linter.unusedVariables false
set_option linter.unusedSimpArgs false

mutual
theorem fit_inD : ∀ (y : EV) {τ τ' : List (Nat × Nat)} {x : EV} {C : List Prop}, fit τ x y = some (C, τ') → ∀ σ, Ext σ τ' → y.av.inD σ = true
  | .any, τ, τ', x, C, h, σ, hσ => by unfold EV.av AV.inD; rfl
  | .v b, τ, τ', x, C, h, σ, hσ => by unfold EV.av AV.inD; rfl
  | .u8 c, τ, τ', x, C, h, σ, hσ => by unfold EV.av AV.inD; rfl
  | .u32 c, τ, τ', x, C, h, σ, hσ => by unfold EV.av AV.inD; rfl
  | .u64 c, τ, τ', x, C, h, σ, hσ => by unfold EV.av AV.inD; rfl
  | .az _ _, τ, τ', x, C, h, σ, hσ => by unfold EV.av AV.inD; rfl
  | .bs m, τ, τ', x, C, h, σ, hσ => by unfold EV.av AV.inD; rfl
  | .lz _ _ _, τ, τ', x, C, h, σ, hσ => by unfold EV.av AV.inD; rfl
  | .sl _ _, τ, τ', x, C, h, σ, hσ => by unfold EV.av AV.inD; rfl
  | .pp _ _, τ, τ', x, C, h, σ, hσ => by unfold EV.av AV.inD; rfl
  | .pb _ _, τ, τ', x, C, h, σ, hσ => by unfold EV.av AV.inD; rfl
  | .pz _ _ _ _ _, τ, τ', x, C, h, σ, hσ => by unfold EV.av AV.inD; rfl
  | .raw _, τ, τ', x, C, h, σ, hσ => by unfold EV.av AV.inD; rfl
  | .po _ _ _ _, τ, τ', x, C, h, σ, hσ => by unfold fit at h; cases h
  | .cnd _ _, τ, τ', x, C, h, σ, hσ => by unfold fit at h; cases h
  | .own q o', τ, τ', x, C, h, σ, hσ => by
    unfold fit at h
    split at h
    · split at h
      · next t ht => cases h; unfold EV.av AV.inD; exact (hσ q (addP_ext ht).2.1).1
      · cases h
    · cases h
  | .osl q n', τ, τ', x, C, h, σ, hσ => by
    unfold fit at h
    split at h
    · split at h
      · next t ht => cases h; unfold EV.av AV.inD; exact (hσ q (addP_ext ht).2.1).1
      · cases h
    · cases h
  | .agg m, τ, τ', x, C, h, σ, hσ => by
    unfold fit at h
    split at h
    · unfold EV.av AV.inD; exact fitL_inD m h σ hσ
    · cases h
  | .tup m, τ, τ', x, C, h, σ, hσ => by
    unfold fit at h
    split at h
    · unfold EV.av AV.inD; exact fitL_inD m h σ hσ
    · cases h
theorem fitL_inD : ∀ (ys : List EV) {τ τ' : List (Nat × Nat)} {xs : List EV} {C : List Prop}, fitL τ xs ys = some (C, τ') → ∀ σ, Ext σ τ' → inDL σ (avL ys) = true
  | [], τ, τ', xs, C, h, σ, hσ => rfl
  | y :: ys, τ, τ', xs, C, h, σ, hσ => by
    unfold fitL at h
    split at h
    · split at h
      · next C1 τ1 h1 =>
        split at h
        · next C2 τ2 h2 =>
          cases h
          have e2 := fitL_ext ys h2
          unfold avL inDL
          rw [fit_inD y h1 σ (hσ.trans e2), fitL_inD ys h2 σ hσ]; rfl
        · cases h
      · cases h
    · cases h
theorem fitL_ext : ∀ (ys : List EV) {τ τ' : List (Nat × Nat)} {xs : List EV} {C : List Prop}, fitL τ xs ys = some (C, τ') → Ext τ' τ
  | [], τ, τ', xs, C, h => by
    unfold fitL at h
    split at h
    · cases h; exact Ext.refl _
    · cases h
  | y :: ys, τ, τ', xs, C, h => by
    unfold fitL at h
    split at h
    · split at h
      · next C1 τ1 h1 =>
        split at h
        · next C2 τ2 h2 => cases h; exact (fitL_ext ys h2).trans (fit_ext y h1)
        · cases h
      · cases h
    · cases h
theorem fit_ext : ∀ (y : EV) {τ τ' : List (Nat × Nat)} {x : EV} {C : List Prop}, fit τ x y = some (C, τ') → Ext τ' τ
  | .any, τ, τ', x, C, h => by unfold fit at h; cases h; exact Ext.refl _
  | .v b, τ, τ', x, C, h => by
    unfold fit at h
    split at h
    · split at h <;> cases h; exact Ext.refl _
    · cases h
  | .u8 c, τ, τ', x, C, h => by unfold fit at h; split at h <;> cases h; exact Ext.refl _
  | .u32 c, τ, τ', x, C, h => by unfold fit at h; split at h <;> cases h; exact Ext.refl _
  | .u64 c, τ, τ', x, C, h => by unfold fit at h; split at h <;> cases h; exact Ext.refl _
  | .az _ _, τ, τ', x, C, h => by
    unfold fit at h
    split at h
    · cases h; exact Ext.refl _
    · next l =>
      cases hs : shL l with
      | false => rw [hs] at h; cases h
      | true => rw [hs] at h; cases h; exact Ext.refl _
    · cases h
  | .bs m, τ, τ', x, C, h => by
    unfold fit at h
    split at h
    · cases h; exact Ext.refl _
    · cases h; exact Ext.refl _
    · split at h <;> cases h; exact Ext.refl _
    · cases h
  | .lz n' sz' g, τ, τ', x, C, h => by
    unfold fit at h
    split at h
    · next n sz f =>
      cases hb : Nat.beq sz sz' with
      | false => rw [hb] at h; cases h
      | true => rw [hb] at h; cases h; exact Ext.refl _
    · cases h; exact Ext.refl _
    · cases h; exact Ext.refl _
    · cases h
  | .sl _ _, τ, τ', x, C, h => by
    unfold fit at h
    split at h
    · cases h; exact Ext.refl _
    · cases h; exact Ext.refl _
    · cases h
  | .pp _ _, τ, τ', x, C, h => by unfold fit at h; split at h <;> cases h; exact Ext.refl _
  | .pb _ _, τ, τ', x, C, h => by unfold fit at h; cases h; exact Ext.refl _
  | .pz _ _ _ _ _, τ, τ', x, C, h => by unfold fit at h; cases h; exact Ext.refl _
  | .raw _, τ, τ', x, C, h => by unfold fit at h; cases h; exact Ext.refl _
  | .po _ _ _ _, τ, τ', x, C, h => by unfold fit at h; cases h
  | .cnd _ _, τ, τ', x, C, h => by unfold fit at h; cases h
  | .own q o', τ, τ', x, C, h => by
    unfold fit at h
    split at h
    · split at h
      · next t ht => cases h; exact (addP_ext ht).1
      · cases h
    · cases h
  | .osl q n', τ, τ', x, C, h => by
    unfold fit at h
    split at h
    · split at h
      · next t ht => cases h; exact (addP_ext ht).1
      · cases h
    · cases h
  | .agg m, τ, τ', x, C, h => by
    unfold fit at h
    split at h
    · exact fitL_ext m h
    · cases h
  | .tup m, τ, τ', x, C, h => by
    unfold fit at h
    split at h
    · exact fitL_ext m h
    · cases h
end
/-- Is a block also that one? -/
def fitB (τ : List (Nat × Nat)) (x : EB) : EB → Option (List Prop × List (Nat × Nat))
  | .box m t' => match x with
    | .box l t => bif Nat.beq t t' then fitL τ l m else none
    | _ => none
  | .rb m t' p' => match x with
    | .rb l t p => bif Nat.beq t t' then some ([l = m, p ≤ p'], τ) else none
    | .row c t sz p => bif Nat.beq t t' && Nat.beq sz 1 then (match u8sE c with
      | some l => some ([l = m, p ≤ p'], τ)
      | none => none) else none
    | _ => none
  | .row m t' sz' p' => match x with
    | .row l t sz p => bif Nat.beq t t' && Nat.beq sz sz' then some ([l = m, p ≤ p'], τ) else none
    | _ => none
  | .rz n' sz' g t' p' => match x with
    | .rz n sz f t p => bif Nat.beq t t' && Nat.beq sz sz' then some ([n = n', ∀ i, i < n → ∀ j, j < sz → f i j = g i j, p ≤ p'], τ) else none
    | .row l t sz p => bif Nat.beq t t' && Nat.beq sz sz' then some ([l.length = n' * sz, ∀ i, i < n' → ∀ j, j < sz → l.getD (i * sz + j) .any = g i j, p ≤ p'], τ) else none
    | _ => none
  | .bz n' g t' => match x with
    | .bz n f t => bif Nat.beq t t' then some ([n = n', ∀ i, i < n → f i = g i], τ) else none
    | .box l t => bif Nat.beq t t' && shL l && onesE l then some ((l.length = n') :: eqAz g 0 l, τ) else none
    | _ => none
  | .dead => none
theorem avL_sh {l : List EV} (h : shL l = true) (k : onesE l = true) : avL l = (pvL l).map AV.p := by
  induction l with
  | nil => rfl
  | cons x l ih =>
    simp only [shL, onesE, Bool.and_eq_true] at h k
    simp only [avL, pvL, List.map_cons]
    rw [ih h.2 k.2, av_pv1 k.1 h.1]
theorem inDL_mapP (σ : List (Nat × Nat)) (l : List PV) : inDL σ (l.map AV.p) = true := by
  induction l with
  | nil => rfl
  | cons x l ih => simp only [List.map_cons, inDL, AV.inD, ih]; rfl
def HpImp (x y : OB) : Prop := x.alive = true ∧ ∀ (w : World) (Pub : Nat → Nat → Prop) (φ : Ghost) (r : Nat), Hp w Pub φ r x → Hp w Pub φ r y
theorem HpImp.row {cells : List PV} {t : TypeId} {sz p p' : Nat} (h : p ≤ p') : HpImp (.row cells t sz p) (.row cells t sz p') := by
  refine ⟨rfl, fun w Pub φ r k => ?_⟩
  rcases k with k | ⟨b, c, cur, fr, k1, k2, k3, k4, k5, k6, k7, k8⟩
  · exact .inl k
  · exact .inr ⟨b, c, cur, fr, k1, k2, k3, k4, k5, k6, k7, fun i hi => ⟨Nat.lt_of_lt_of_le (k8 i hi).1 h, (k8 i hi).2⟩⟩
theorem fitB_ok {τ τ' : List (Nat × Nat)} {x y : EB} {C : List Prop} (h : fitB τ x y = some (C, τ')) (hC : ∀ c ∈ C, c) :
    Ext τ' τ ∧ (sgOk τ = true → sgOk τ' = true) ∧ ∀ σ, Ext σ τ' → HpImp x.ob (y.ob.sg σ) ∧ y.ob.inD σ = true := by
  cases y with
  | box m t' =>
    simp only [fitB] at h
    split at h
    · next l t =>
      cases hb : Nat.beq t t' with
      | false => rw [hb] at h; cases h
      | true =>
        rw [hb] at h
        simp only [cond_true] at h
        have e := nat_eq hb; subst e
        obtain ⟨a1, a2, a3⟩ := fitL_ok m h hC
        refine ⟨a1, a2, fun σ hσ => ⟨⟨rfl, fun w Pub φ r k => ?_⟩, fitL_inD m h σ hσ⟩⟩
        obtain ⟨b, cur, k1, k2, k3, k4, k5⟩ := k
        exact ⟨b, cur, k1, k2, (a3 σ hσ).R k3, k4, k5⟩
    · cases h
  | rb m t' p' =>
    simp only [fitB] at h
    split at h
    · next l t p =>
      cases hb : Nat.beq t t' with
      | false => rw [hb] at h; cases h
      | true =>
        rw [hb] at h; cases h
        have e := nat_eq hb; subst e
        have e1 := hC (l = m) (by simp); subst e1
        exact ⟨Ext.refl _, id, fun σ _ => ⟨HpImp.row (hC (p ≤ p') (by simp)), rfl⟩⟩
    · next c t sz p =>
      cases hb : Nat.beq t t' && Nat.beq sz 1 with
      | false => rw [hb] at h; cases h
      | true =>
        rw [hb] at h
        simp only [cond_true] at h
        split at h
        · next l hl =>
          cases h
          simp only [Bool.and_eq_true] at hb
          have e := nat_eq hb.1; have e2 := nat_eq hb.2; subst e e2
          have e1 := hC (l = m) (by simp); subst e1
          refine ⟨Ext.refl _, id, fun σ _ => ⟨?_, rfl⟩⟩
          have k := HpImp.row (cells := l.map b8P) (t := t) (sz := 1) (hC (p ≤ p') (by simp))
          rw [← (u8sE_ok hl).1] at k
          have k2 : HpImp (EB.row c t 1 p).ob (.row (pvL c) t 1 p') := k
          rw [(u8sE_ok hl).1] at k2; exact k2
        · cases h
    · cases h
  | row m t' sz' p' =>
    simp only [fitB] at h
    split at h
    · next l t sz p =>
      cases hb : Nat.beq t t' && Nat.beq sz sz' with
      | false => rw [hb] at h; cases h
      | true =>
        rw [hb] at h; cases h
        simp only [Bool.and_eq_true] at hb
        have e := nat_eq hb.1; have e2 := nat_eq hb.2; subst e e2
        have e1 := hC (l = m) (by simp); subst e1
        exact ⟨Ext.refl _, id, fun σ _ => ⟨HpImp.row (hC (p ≤ p') (by simp)), rfl⟩⟩
    · cases h
  | rz n' sz' g t' p' =>
    simp only [fitB] at h
    split at h
    · next n sz f t p =>
      cases hb : Nat.beq t t' && Nat.beq sz sz' with
      | false => rw [hb] at h; cases h
      | true =>
        rw [hb] at h; cases h
        simp only [Bool.and_eq_true] at hb
        have e := nat_eq hb.1; have e2 := nat_eq hb.2; subst e e2
        have e1 := hC (n = n') (by simp); subst e1
        have e3 := hC (∀ i, i < n → ∀ j, j < sz → f i j = g i j) (by simp)
        refine ⟨Ext.refl _, id, fun σ _ => ⟨?_, rfl⟩⟩
        show HpImp (.row (lzC n sz f) t sz p) (.row (lzC n sz g) t sz p')
        rw [lzC_ext e3]; exact HpImp.row (hC (p ≤ p') (by simp))
    · next l t sz p =>
      cases hb : Nat.beq t t' && Nat.beq sz sz' with
      | false => rw [hb] at h; cases h
      | true =>
        rw [hb] at h; cases h
        simp only [Bool.and_eq_true] at hb
        have e := nat_eq hb.1; have e2 := nat_eq hb.2; subst e e2
        have e1 := hC (l.length = n' * sz) (by simp)
        have e3 := hC (∀ i, i < n' → ∀ j, j < sz → l.getD (i * sz + j) .any = g i j) (by simp)
        refine ⟨Ext.refl _, id, fun σ _ => ⟨?_, rfl⟩⟩
        show HpImp (.row (pvL l) t sz p) (.row (lzC n' sz g) t sz p')
        rw [← lzC_of n' sz l e1, lzC_ext e3]; exact HpImp.row (hC (p ≤ p') (by simp))
    · cases h
  | bz n' g t' =>
    have go : ∀ {n : Nat} {t : TypeId}, t = t' → n = n' → x.ob = .box ((azC n g).map AV.p) t → ∀ σ, HpImp x.ob ((EB.bz n' g t').ob.sg σ) ∧ (EB.bz n' g t').ob.inD σ = true := fun {n t} e1 e2 e3 σ => by
      subst e1 e2
      refine ⟨?_, inDL_mapP σ _⟩
      have e4 : (EB.bz n g t).ob.sg σ = .box ((azC n g).map AV.p) t := by
        show OB.box (sgL σ ((azC n g).map AV.p)) t = _
        rw [sgL_mapP]
      rw [e4, e3]
      exact ⟨rfl, fun w Pub φ r k => k⟩
    simp only [fitB] at h
    split at h
    · next n f t =>
      cases hb : Nat.beq t t' with
      | false => rw [hb] at h; cases h
      | true =>
        rw [hb] at h; cases h
        have e1 := hC (n = n') (by simp)
        have e2 := hC (∀ i, i < n → f i = g i) (by simp)
        refine ⟨Ext.refl _, id, fun σ _ => go (nat_eq hb) e1 ?_ σ⟩
        have e3 : azC n f = azC n g := List.map_congr_left fun i hi => by rw [e2 i (List.mem_range.1 hi)]
        show OB.box ((azC n f).map AV.p) t = _
        rw [e3]
    · next l t =>
      cases hb : Nat.beq t t' && shL l && onesE l with
      | false => rw [hb] at h; cases h
      | true =>
        rw [hb] at h; cases h
        simp only [Bool.and_eq_true] at hb
        have e1 := hC (l.length = n') (by simp)
        refine ⟨Ext.refl _, id, fun σ _ => go (nat_eq hb.1.1) e1 ?_ σ⟩
        show OB.box (avL l) t = _
        rw [avL_sh hb.1.2 hb.2, eqAz_pv (g := g) fun c hc => hC c (List.mem_cons_of_mem _ hc)]
    · cases h
  | dead => simp only [fitB] at h; cases h

def fitS (sl : List (Nat × EV)) (τ : List (Nat × Nat)) : List (Nat × EV) → Option (List Prop × List (Nat × Nat))
  | [] => some ([], τ)
  | (s, y) :: ys => match fit τ (look .any sl s) y with
    | some (C, τ') => match fitS sl τ' ys with
      | some (C', τ'') => some (C ++ C', τ'')
      | none => none
    | none => none
def fitH (hp : List (Nat × EB)) (τ : List (Nat × Nat)) : List (Nat × EB) → Option (List Prop × List (Nat × Nat))
  | [] => some ([], τ)
  | (q, y) :: ys => bif domN q τ then (match fitB τ (look .dead hp (sg τ q)) y with
    | some (C, τ') => match fitH hp τ' ys with
      | some (C', τ'') => some (C ++ C', τ'')
      | none => none
    | none => none) else none
def kpOk (kp : List Nat) (σ : List (Nat × Nat)) : Bool := kp.all fun q => !domN q σ || Nat.beq (sg σ q) q
theorem fitS_ok {sl : List (Nat × EV)} : ∀ {ys : List (Nat × EV)} {τ τ' : List (Nat × Nat)} {C : List Prop}, fitS sl τ ys = some (C, τ') → (∀ c ∈ C, c) →
    Ext τ' τ ∧ (sgOk τ = true → sgOk τ' = true) ∧ ∀ σ, Ext σ τ' → ∀ s, Gv (look .any sl s).av ((look .any ys s).av.sg σ) ∧ (look .any ys s).av.inD σ = true
  | [], τ, τ', C, h, hC => by
    unfold fitS at h; cases h
    exact ⟨Ext.refl _, id, fun σ _ s => ⟨by simp only [look]; unfold EV.av AV.sg; exact Gv.any, by simp only [look]; unfold EV.av AV.inD; rfl⟩⟩
  | (s0, y) :: ys, τ, τ', C, h, hC => by
    unfold fitS at h
    split at h
    · next C1 τ1 h1 =>
      split at h
      · next C2 τ2 h2 =>
        cases h
        obtain ⟨a1, a2, a3⟩ := fit_ok y h1 (fun c hc => hC c (List.mem_append_left _ hc))
        obtain ⟨b1, b2, b3⟩ := fitS_ok h2 (fun c hc => hC c (List.mem_append_right _ hc))
        refine ⟨b1.trans a1, fun ho => b2 (a2 ho), fun σ hσ s => ?_⟩
        rw [look_cons]
        split
        · next e => subst e; exact ⟨a3 σ (hσ.trans b1), fit_inD y h1 σ (hσ.trans b1)⟩
        · exact b3 σ hσ s
      · cases h
    · cases h
theorem fitH_ok {hp : List (Nat × EB)} : ∀ {ys : List (Nat × EB)} {τ τ' : List (Nat × Nat)} {C : List Prop}, fitH hp τ ys = some (C, τ') → (∀ c ∈ C, c) →
    Ext τ' τ ∧ (sgOk τ = true → sgOk τ' = true) ∧ ∀ σ, Ext σ τ' → inDH σ (obs ys) = true ∧ ∀ q, (look EB.dead ys q).alive = true → HpImp (look EB.dead hp (sg σ q)).ob ((look EB.dead ys q).ob.sg σ)
  | [], τ, τ', C, h, hC => by
    unfold fitH at h; cases h
    exact ⟨Ext.refl _, id, fun σ _ => ⟨rfl, fun q hq => by simp [look, EB.alive] at hq⟩⟩
  | (q0, y) :: ys, τ, τ', C, h, hC => by
    unfold fitH at h
    cases hd : domN q0 τ with
    | false => rw [hd] at h; cases h
    | true =>
      rw [hd] at h
      simp only [cond_true] at h
      split at h
      · next C1 τ1 h1 =>
        split at h
        · next C2 τ2 h2 =>
          cases h
          obtain ⟨a1, a2, a3⟩ := fitB_ok h1 (fun c hc => hC c (List.mem_append_left _ hc))
          obtain ⟨b1, b2, b3⟩ := fitH_ok h2 (fun c hc => hC c (List.mem_append_right _ hc))
          refine ⟨b1.trans a1, fun ho => b2 (a2 ho), fun σ hσ => ?_⟩
          obtain ⟨c1, c2⟩ := b3 σ hσ
          obtain ⟨d1, d2⟩ := a3 σ (hσ.trans b1)
          have hq := (hσ.trans b1).trans a1 q0 hd
          refine ⟨by simp only [obs, inDH, Bool.and_eq_true]; exact ⟨⟨hq.1, d2⟩, c1⟩, fun q hal => ?_⟩
          rw [look_cons] at hal ⊢
          by_cases e : q0 = q
          · subst e; rw [if_pos rfl, hq.2]; exact d1
          · rw [if_neg e] at hal ⊢; exact c2 q hal
        · cases h
      · cases h
section
variable {E : Env} {kp : List Nat} {n : Nat}
theorem Inv.ren {φ : Ghost} {Pub : Nat → Nat → Prop} {h h' : List (Nat × OB)} {w : World} {σ : List (Nat × Nat)} (I : Inv E kp φ Pub h w) (ho : sgOk σ = true) (hk : kpOk kp σ = true) (hi : inDH σ h' = true)
    (hb : ∀ q, (look OB.dead h' q).alive = true → HpImp (look OB.dead h (sg σ q)) ((look OB.dead h' q).sg σ)) : Inv E kp (fun q => if domN q σ = true then φ (sg σ q) else φ q) Pub h' w := by
  have H : ∀ q, domN q σ = true → φ (sg σ q) = (fun q => if domN q σ = true then φ (sg σ q) else φ q) q := fun q hq => (if_pos hq).symm
  have hd : ∀ q, (look OB.dead h' q).alive = true → domN q σ = true := fun q hq => (inDH_look hi).2 hq
  refine I.next rfl rfl rfl (Nat.le_refl _) (fun _ _ _ => rfl) (Adv.refl _ _) (fun _ _ hp => .inl hp) I.publ (fun q hq => ?_) (fun q b c hq e => ?_) (fun q q' b c c' hq hq' e e' => ?_) (fun q hq => ?_)
  · have k := (hb q hq).2 w Pub φ (sg σ q) (I.own (sg σ q))
    exact (Hp_sg H (hd q hq) (inDH_look hi).1).1 k
  · simp only [if_pos (hd q hq)] at e; exact I.mine (sg σ q) b c (hb q hq).1 e
  · simp only [if_pos (hd q hq)] at e
    simp only [if_pos (hd q' hq')] at e'
    have := I.inj (sg σ q) (sg σ q') b c c' (hb q hq).1 (hb q' hq').1 e e'
    have k1 := sgi_sg ho (hd q hq)
    rw [this, sgi_sg ho (hd q' hq')] at k1
    injection k1 with k1; exact k1.symm
  · unfold kpOk at hk
    have := List.all_eq_true.1 hk q hq
    simp only [Bool.or_eq_true, Bool.not_eq_true'] at this
    rcases this with h1 | h1
    · simp [h1]
    · have := nat_eq h1
      by_cases hdq : domN q σ = true
      · rw [if_pos hdq, this]
      · rw [if_neg hdq]
/-- A state is also that one, with its names turned. -/
def wkF (kp : List Nat) (st st' : ES) : Option (List Prop) :=
  match fitS st.slots [] st'.slots with
  | some (C, τ) => match fitH st.heap τ st'.heap with
    | some (C', σ) => bif kpOk kp σ then some (C ++ C') else none
    | none => none
  | none => none
theorem wkF_ok {st st' : ES} {C : List Prop} (h : wkF kp st st' = some C) (hC : ∀ c ∈ C, c) : Wk E kp n st.as st'.as := by
  unfold wkF at h
  split at h
  · next C1 τ h1 =>
    split at h
    · next C2 σ h2 =>
      cases hk : kpOk kp σ with
      | false => rw [hk] at h; cases h
      | true =>
        rw [hk] at h; cases h
        obtain ⟨a1, a2, a3⟩ := fitS_ok h1 (fun c hc => hC c (List.mem_append_left _ hc))
        obtain ⟨b1, b2, b3⟩ := fitH_ok h2 (fun c hc => hC c (List.mem_append_right _ hc))
        have ho : sgOk σ = true := b2 (a2 rfl)
        obtain ⟨c1, c2⟩ := b3 σ (Ext.refl _)
        rintro a w ⟨φ, Pub, I, h0, hn, hsl⟩
        refine ⟨_, Pub, I.ren ho hk c1 (fun q hq => ?_), h0, hn, fun s => ?_⟩
        · have e : look OB.dead st'.as.heap q = (look EB.dead st'.heap q).ob := look_obs _ _
          have e2 : look OB.dead st.as.heap (sg σ q) = (look EB.dead st.heap (sg σ q)).ob := look_obs _ _
          have hq' : (look OB.dead st'.as.heap q).alive = true := hq
          rw [e, alive_ob] at hq'
          have g := c2 q hq'
          rw [← e, ← e2] at g
          exact g
        · obtain ⟨g1, g2⟩ := a3 σ b1 s
          have e : look AV.any st'.as.slots s = (look EV.any st'.slots s).av := look_avs _ _
          have e2 : look AV.any st.as.slots s = (look EV.any st.slots s).av := look_avs _ _
          rw [e]
          have k := hsl s
          rw [e2] at k
          exact (RA_sg (ψ := φ) (fun q hq => (if_pos hq).symm) _ _ g2).1 (g1 _ _ _ _ k)
    · cases h
  · cases h
end
end Go.Proofs.Ytnopdnclefopbaa
