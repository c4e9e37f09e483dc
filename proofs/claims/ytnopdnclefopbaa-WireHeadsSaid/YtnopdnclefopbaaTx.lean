/- Names turned, values fitted, states weakened. It names no function of the program. -/
import Derived.Test.YtnopdnclefopbaaTw
namespace Go.Proofs.Ytnopdnclefopbaa
open Go.RowKit
set_option linter.unusedVariables false
set_option linter.unusedSimpArgs false

mutual
def EV.sg (σ : List (Nat × Nat)) : EV → EV
  | .agg l => .agg (sgE σ l)
  | .tup l => .tup (sgE σ l)
  | .own q off => .own (Ytnopdnclefopbaa.sg σ q) off
  | .po q sz i off => .po (Ytnopdnclefopbaa.sg σ q) sz i off
  | .osl q n => .osl (Ytnopdnclefopbaa.sg σ q) n
  | .cnd g x => .cnd g (EV.sg σ x)
  | .v x => .v x
  | .u8 c => .u8 c
  | .u32 c => .u32 c
  | .u64 c => .u64 c
  | .az n f => .az n f
  | .bs l => .bs l
  | .lz n sz f => .lz n sz f
  | .pp c o => .pp c o
  | .pb l i => .pb l i
  | .pz n sz f i o => .pz n sz f i o
  | .raw x => .raw x
  | .sl c n => .sl c n
  | .any => .any
def sgE (σ : List (Nat × Nat)) : List EV → List EV
  | [] => []
  | x :: xs => EV.sg σ x :: sgE σ xs
end
mutual
theorem sg_av (σ : List (Nat × Nat)) : ∀ x : EV, (x.sg σ).av = x.av.sg σ
  | .agg l => by unfold EV.sg EV.av AV.sg; rw [sg_avL σ l]
  | .tup l => by unfold EV.sg EV.av AV.sg; rw [sg_avL σ l]
  | .own q off => by unfold EV.sg EV.av AV.sg; rfl
  | .po q sz i off => by unfold EV.sg EV.av AV.sg; rfl
  | .osl q n => by unfold EV.sg EV.av AV.sg; rfl
  | .cnd g x => by unfold EV.sg EV.av AV.sg; rw [sg_av σ x]
  | .v x => by unfold EV.sg EV.av AV.sg; rfl
  | .u8 c => by unfold EV.sg EV.av AV.sg; rfl
  | .u32 c => by unfold EV.sg EV.av AV.sg; rfl
  | .u64 c => by unfold EV.sg EV.av AV.sg; rfl
  | .az n f => by unfold EV.sg EV.av AV.sg; rfl
  | .bs l => by unfold EV.sg EV.av AV.sg; rfl
  | .lz n sz f => by unfold EV.sg EV.av AV.sg; rfl
  | .pp c o => by unfold EV.sg EV.av AV.sg; rfl
  | .pb l i => by unfold EV.sg EV.av AV.sg; rfl
  | .pz n sz f i o => by unfold EV.sg EV.av AV.sg; rfl
  | .raw x => by unfold EV.sg EV.av AV.sg; rfl
  | .sl c n => by unfold EV.sg EV.av AV.sg; rfl
  | .any => by unfold EV.sg EV.av AV.sg; rfl
theorem sg_avL (σ : List (Nat × Nat)) : ∀ l : List EV, avL (sgE σ l) = sgL σ (avL l)
  | [] => rfl
  | x :: xs => by unfold sgE avL sgL; rw [sg_av σ x, sg_avL σ xs]
end
theorem sgL_mapP (σ : List (Nat × Nat)) (l : List PV) : sgL σ (l.map AV.p) = l.map AV.p := by
  induction l with
  | nil => rfl
  | cons x l ih => simp only [List.map_cons, sgL, AV.sg, ih]
def EB.sg (σ : List (Nat × Nat)) : EB → EB
  | .box cells t => .box (sgE σ cells) t
  | x => x
theorem sg_ob (σ : List (Nat × Nat)) (x : EB) : (x.sg σ).ob = x.ob.sg σ := by
  cases x with
  | bz n f t => show OB.box _ t = OB.box (sgL σ _) t; rw [sgL_mapP]
  | _ => simp [EB.sg, EB.ob, OB.sg, sg_avL]
def sgEH (σ : List (Nat × Nat)) : List (Nat × EB) → List (Nat × EB)
  | [] => []
  | (q, x) :: h => (sg σ q, x.sg σ) :: sgEH σ h
theorem sgEH_obs (σ : List (Nat × Nat)) : ∀ h : List (Nat × EB), obs (sgEH σ h) = sgH σ (obs h)
  | [] => rfl
  | (q, x) :: h => by simp only [sgEH, obs, sgH, sg_ob, sgEH_obs σ h]
def deadE (σ : List (Nat × Nat)) : List (Nat × EB) → List (Nat × EB)
  | [] => []
  | (q, _) :: h => (sg σ q, .dead) :: deadE σ h
theorem deadE_obs (σ : List (Nat × Nat)) : ∀ h : List (Nat × EB), obs (deadE σ h) = deadH σ (obs h)
  | [] => rfl
  | (q, x) :: h => by simp only [deadE, obs, deadH, deadE_obs σ h]; rfl

/-! ### Fitting -/
def kNum : IntKind → Nat
  | .i8 => 0 | .i16 => 1 | .i32 => 2 | .i64 => 3 | .u8 => 4 | .u16 => 5 | .u32 => 6 | .u64 => 7
theorem kNum_eq {a b : IntKind} (h : Nat.beq (kNum a) (kNum b) = true) : a = b := by
  have := nat_eq h
  cases a <;> cases b <;> first | rfl | cases this
/-- A pair of names more. -/
def addP (τ : List (Nat × Nat)) (q r : Nat) : Option (List (Nat × Nat)) :=
  bif domN q τ then (bif Nat.beq (sg τ q) r then some τ else none) else (match sgi r τ with | none => some ((q, r) :: τ) | some _ => none)
def fitV (a b : Value) : Option (List Prop) :=
  match b with
  | .int k' j => match a with
    | .int k i => bif Nat.beq (kNum k) (kNum k') then some [i = j] else none
    | _ => none
  | .bool q => match a with
    | .bool g => some [g = q]
    | _ => none
  | .string ⟨⟨m⟩⟩ => match a with
    | .string ⟨⟨l⟩⟩ => some [l = m]
    | _ => none
  | b => some [a = b]
theorem fitV_ok {a b : Value} {C : List Prop} (h : fitV a b = some C) (hC : ∀ c ∈ C, c) : a = b := by
  unfold fitV at h
  split at h
  · next k' j =>
    split at h
    · next k i =>
      cases hk : Nat.beq (kNum k) (kNum k') with
      | false => rw [hk] at h; cases h
      | true => rw [hk] at h; cases h; rw [kNum_eq hk, hC (i = j) (by simp)]
    · cases h
  · next q =>
    split at h
    · next g => cases h; rw [hC (g = q) (by simp)]
    · cases h
  · next m =>
    split at h
    · next l => cases h; rw [hC (l = m) (by simp)]
    · cases h
  · cases h; exact hC (a = b) (by simp)
/-- One cell as another one. -/
def fitC (x y : EV) : List Prop :=
  match y with
  | .u8 c => match asU8 x with
    | some a => [a = c]
    | none => [False]
  | .u32 c => match asU32 x with
    | some a => [a = c]
    | none => [False]
  | .u64 c => match asU64 x with
    | some a => [a = c]
    | none => [False]
  | .v b => match x with
    | .v a => match fitV a b with
      | some C => C
      | none => [False]
    | _ => [False]
  | y => [x.pv = y.pv]
theorem pv_of_av {x : EV} {u : Value} (h : x.av = .p (.v u)) : x.pv = .v u := by
  cases x <;> simp only [EV.av, EV.pv, AV.p.injEq, reduceCtorEq] at h ⊢ <;> exact h
theorem fitC_ok {x y : EV} (h : ∀ c ∈ fitC x y, c) : x.pv = y.pv := by
  unfold fitC at h
  split at h
  · next c =>
    split at h
    · next a ha => have e := h (a = c) (by simp); subst e; rw [pv_of_av (asU8_v ha)]; rfl
    · exact (h False (by simp)).elim
  · next c =>
    split at h
    · next a ha => have e := h (a = c) (by simp); subst e; rw [pv_of_av (asU32_v ha)]; rfl
    · exact (h False (by simp)).elim
  · next c =>
    split at h
    · next a ha => have e := h (a = c) (by simp); subst e; rw [pv_of_av (asU64_v ha)]; rfl
    · exact (h False (by simp)).elim
  · split at h
    · split at h
      · next hv => rw [fitV_ok hv h]
      · exact (h False (by simp)).elim
    · exact (h False (by simp)).elim
  · exact h _ (by simp)
/-- A list of values, one by one. -/
def eqAz (g : Nat → EV) : Nat → List EV → List Prop
  | _, [] => []
  | i, x :: l => fitC x (g i) ++ eqAz g (i + 1) l
theorem eqAz_pv' {g : Nat → EV} : ∀ {l : List EV} {i : Nat}, (∀ c ∈ eqAz g i l, c) → pvL l = (List.range l.length).map fun j => (g (i + j)).pv
  | [], i, _ => rfl
  | x :: l, i, h => by
    have h1 := fitC_ok (x := x) (y := g i) (fun c hc => h c (by simp [eqAz, hc]))
    have h2 := eqAz_pv' (g := g) (l := l) (i := i + 1) (fun c hc => h c (by simp [eqAz, hc]))
    rw [List.length_cons, List.range_succ_eq_map, List.map_cons, List.map_map]
    simp only [pvL]
    rw [h1, h2]
    congr 1
    apply List.map_congr_left
    intro j _
    show (g (i + 1 + j)).pv = (g (i + (j + 1))).pv
    rw [Nat.add_assoc, Nat.add_comm 1]
theorem eqAz_pv {l : List EV} {g : Nat → EV} (h : ∀ c ∈ eqAz g 0 l, c) : pvL l = azC l.length g := by
  rw [eqAz_pv' h]
  apply List.map_congr_left
  intro j _
  rw [Nat.zero_add]
mutual
/-- Is x also a y? What is asked for, and the names that are matched. -/
def fit (τ : List (Nat × Nat)) (x : EV) : EV → Option (List Prop × List (Nat × Nat))
  | .any => some ([], τ)
  | .v b => match x with
    | .v a => match fitV a b with
      | some C => some (C, τ)
      | none => none
    | _ => none
  | .u8 c => match asU8 x with
    | some a => some ([a = c], τ)
    | none => none
  | .u32 c => match asU32 x with
    | some a => some ([a = c], τ)
    | none => none
  | .u64 c => match asU64 x with
    | some a => some ([a = c], τ)
    | none => none
  | .az n' g => match x with
    | .az n f => some ([n = n', ∀ i, i < n → f i = g i], τ)
    | .agg l => bif shL l then some ((l.length = n') :: eqAz g 0 l, τ) else none
    | _ => none
  | .bs m => match x with
    | .bs l => some ([l = m], τ)
    | .v (.slice none 0 0) => some ([m = []], τ)
    | .sl cells n => match u8sE cells with
      | some l => some ([l = m, n = l.length], τ)
      | none => none
    | _ => none
  | .lz n' sz' g => match x with
    | .lz n sz f => bif Nat.beq sz sz' then some ([n = n', ∀ i, i < n → ∀ j, j < sz → f i j = g i j], τ) else none
    | .v (.slice none 0 0) => some ([n' = 0], τ)
    | .sl cells n => some ([n = n', cells.length = n * sz', ∀ i, i < n → ∀ j, j < sz' → cells.getD (i * sz' + j) .any = g i j], τ)
    | _ => none
  | .sl c' n' => match x with
    | .sl c n => some ([c = c', n = n'], τ)
    | .v (.slice none 0 0) => some ([c' = [], n' = 0], τ)
    | _ => none
  | .pp c' o' => match x with
    | .pp c o => some ([c = c', o = o'], τ)
    | _ => none
  | .own q o' => match x with
    | .own r o => match addP τ q r with
      | some τ' => some ([o = o'], τ')
      | none => none
    | _ => none
  | .osl q n' => match x with
    | .osl r n => match addP τ q r with
      | some τ' => some ([n = n'], τ')
      | none => none
    | _ => none
  | .agg m => match x with
    | .agg l => fitL τ l m
    | _ => none
  | .tup m => match x with
    | .tup l => fitL τ l m
    | _ => none
  | .po _ _ _ _ => none
  | .cnd _ _ => none
  | .pb l i => some ([x = .pb l i], τ)
  | .pz n s f i o => some ([x = .pz n s f i o], τ)
  | .raw z => some ([x = .raw z], τ)
def fitL (τ : List (Nat × Nat)) (xs : List EV) : List EV → Option (List Prop × List (Nat × Nat))
  | [] => match xs with
    | [] => some ([], τ)
    | _ => none
  | y :: ys => match xs with
    | x :: xs => match fit τ x y with
      | some (C, τ') => match fitL τ' xs ys with
        | some (C', τ'') => some (C ++ C', τ'')
        | none => none
      | none => none
    | [] => none
end
/-- σ knows all of τ. -/
def Ext (σ τ : List (Nat × Nat)) : Prop := ∀ q, domN q τ = true → domN q σ = true ∧ sg σ q = sg τ q
theorem Ext.refl (σ : List (Nat × Nat)) : Ext σ σ := fun _ h => ⟨h, rfl⟩
theorem Ext.trans {a b c : List (Nat × Nat)} (h : Ext a b) (k : Ext b c) : Ext a c := fun q hq => ⟨(h q (k q hq).1).1, ((h q (k q hq).1).2).trans (k q hq).2⟩
theorem addP_ext {τ τ' : List (Nat × Nat)} {q r : Nat} (h : addP τ q r = some τ') : Ext τ' τ ∧ domN q τ' = true ∧ sg τ' q = r ∧ (sgOk τ = true → sgOk τ' = true) := by
  unfold addP at h
  cases hd : domN q τ with
  | true =>
    rw [hd] at h
    simp only [cond_true] at h
    cases hb : Nat.beq (sg τ q) r with
    | false => rw [hb] at h; cases h
    | true => rw [hb] at h; cases h; exact ⟨Ext.refl _, hd, nat_eq hb, id⟩
  | false =>
    rw [hd] at h
    simp only [cond_false] at h
    split at h
    · next hs =>
      cases h
      refine ⟨fun p hp => ?_, by simp [domN], by simp [sg, look], fun ho => by simp [sgOk, hd, hs, ho]⟩
      have hne : q ≠ p := fun e => by subst e; rw [hd] at hp; cases hp
      refine ⟨by simp [domN, hp], ?_⟩
      unfold sg; rw [look_cons, if_neg hne]
    · cases h
theorem nn_of (m : Nat) : PV.nn1 (.v (.slice none 0 0)) = .sl [] 0 := rfl
mutual
theorem fit_ok : ∀ (y : EV) {τ τ' : List (Nat × Nat)} {x : EV} {C : List Prop}, fit τ x y = some (C, τ') → (∀ c ∈ C, c) →
    Ext τ' τ ∧ (sgOk τ = true → sgOk τ' = true) ∧ ∀ σ, Ext σ τ' → Gv x.av (y.av.sg σ)
  | .any, τ, τ', x, C, h, hC => by
    unfold fit at h; cases h
    exact ⟨Ext.refl _, id, fun σ _ => by unfold EV.av AV.sg; exact Gv.any⟩
  | .v b, τ, τ', x, C, h, hC => by
    unfold fit at h
    split at h
    · split at h
      · next C' hv =>
        cases h
        have e := fitV_ok hv hC; subst e
        exact ⟨Ext.refl _, id, fun σ _ => by unfold EV.av AV.sg; exact Gv.r⟩
      · cases h
    · cases h
  | .u8 c, τ, τ', x, C, h, hC => by
    unfold fit at h
    split at h
    · next a ha =>
      cases h
      have e := hC (a = c) (by simp); subst e
      exact ⟨Ext.refl _, id, fun σ _ => by have := asU8_gv ha; unfold EV.av AV.sg; unfold EV.av at this; exact this⟩
    · cases h
  | .u32 c, τ, τ', x, C, h, hC => by
    unfold fit at h
    split at h
    · next a ha =>
      cases h
      have e := hC (a = c) (by simp); subst e
      exact ⟨Ext.refl _, id, fun σ _ => by have := asU32_gv ha; unfold EV.av AV.sg; unfold EV.av at this; exact this⟩
    · cases h
  | .u64 c, τ, τ', x, C, h, hC => by
    unfold fit at h
    split at h
    · next a ha =>
      cases h
      have e := hC (a = c) (by simp); subst e
      exact ⟨Ext.refl _, id, fun σ _ => by have := asU64_gv ha; unfold EV.av AV.sg; unfold EV.av at this; exact this⟩
    · cases h
  | .az n' g, τ, τ', x, C, h, hC => by
    unfold fit at h
    split at h
    · next n f =>
      cases h
      have e1 := hC (n = n') (by simp); subst e1
      have e2 := hC (∀ i, i < n → f i = g i) (by simp)
      refine ⟨Ext.refl _, id, fun σ _ => ?_⟩
      unfold EV.av AV.sg EV.pv
      have e3 : azC n f = azC n g := List.map_congr_left fun i hi => by rw [e2 i (List.mem_range.1 hi)]
      show Gv (.p (.agg (azC n f))) (.p (.agg (azC n g)))
      rw [e3]; exact Gv.r
    · next l =>
      cases hs : shL l with
      | false => rw [hs] at h; cases h
      | true =>
        rw [hs] at h; cases h
        have e1 := hC (l.length = n') (by simp); subst e1
        have e3 := eqAz_pv (g := g) (l := l) (fun c hc => hC c (by simp [hc]))
        refine ⟨Ext.refl _, id, fun σ _ => ?_⟩
        have k := Gv.sh (x := .agg l) hs
        have e4 : (EV.agg l).pv = .agg (azC l.length g) := by rw [← e3]; rfl
        rw [e4] at k
        have e5 : (EV.az l.length g).av.sg σ = .p (.agg (azC l.length g)) := by unfold EV.av AV.sg EV.pv; rfl
        rw [e5]; exact k
    · cases h
  | .bs m, τ, τ', x, C, h, hC => by
    unfold fit at h
    split at h
    · next l =>
      cases h
      have e := hC (l = m) (by simp); subst e
      exact ⟨Ext.refl _, id, fun σ _ => by unfold EV.av AV.sg; exact Gv.r⟩
    · cases h
      have e := hC (m = []) (by simp); subst e
      exact ⟨Ext.refl _, id, fun σ _ => by unfold EV.av AV.sg; exact Gv.nilSl⟩
    · next cells n =>
      split at h
      · next l hl =>
        cases h
        have e := hC (l = m) (by simp); subst e
        have e2 := hC (n = l.length) (by simp); subst e2
        obtain ⟨u1, u2⟩ := u8sE_ok hl
        refine ⟨Ext.refl _, id, fun σ _ => ?_⟩
        unfold EV.av AV.sg
        show Gv (.p (.sl (pvL cells) l.length)) (.p (bytesP l))
        rw [u1]; exact Gv.r
      · cases h
    · cases h
  | .lz n' sz' g, τ, τ', x, C, h, hC => by
    unfold fit at h
    split at h
    · next n sz f =>
      cases hb : Nat.beq sz sz' with
      | false => rw [hb] at h; cases h
      | true =>
        rw [hb] at h; cases h
        have e0 := nat_eq hb; subst e0
        have e1 := hC (n = n') (by simp); subst e1
        have e2 := hC (∀ i, i < n → ∀ j, j < sz → f i j = g i j) (by simp)
        refine ⟨Ext.refl _, id, fun σ _ => ?_⟩
        unfold EV.av AV.sg
        show Gv (.p (.sl (lzC n sz f) n)) (.p (.sl (lzC n sz g) n))
        rw [lzC_ext e2]; exact Gv.r
    · cases h
      have e := hC (n' = 0) (by simp); subst e
      exact ⟨Ext.refl _, id, fun σ _ => by unfold EV.av AV.sg EV.pv; exact Gv.nilSl⟩
    · next cells n =>
      cases h
      have e1 := hC (n = n') (by simp); subst e1
      have e2 := hC (cells.length = n * sz') (by simp)
      have e3 := hC (∀ i, i < n → ∀ j, j < sz' → cells.getD (i * sz' + j) .any = g i j) (by simp)
      refine ⟨Ext.refl _, id, fun σ _ => ?_⟩
      unfold EV.av AV.sg
      show Gv (.p (.sl (pvL cells) n)) (.p (.sl (lzC n sz' g) n))
      rw [← lzC_of n sz' cells e2, lzC_ext e3]; exact Gv.r
    · cases h
  | .sl c' n', τ, τ', x, C, h, hC => by
    unfold fit at h
    split at h
    · next c n =>
      cases h
      have e1 := hC (c = c') (by simp); have e2 := hC (n = n') (by simp); subst e1 e2
      exact ⟨Ext.refl _, id, fun σ _ => by unfold EV.av AV.sg; exact Gv.r⟩
    · cases h
      have e1 := hC (c' = []) (by simp); have e2 := hC (n' = 0) (by simp); subst e1 e2
      exact ⟨Ext.refl _, id, fun σ _ => by unfold EV.av AV.sg; exact Gv.nilSl⟩
    · cases h
  | .pp c' o', τ, τ', x, C, h, hC => by
    unfold fit at h
    split at h
    · next c o =>
      cases h
      have e1 := hC (c = c') (by simp); have e2 := hC (o = o') (by simp); subst e1 e2
      exact ⟨Ext.refl _, id, fun σ _ => by unfold EV.av AV.sg; exact Gv.r⟩
    · cases h
  | .own q o', τ, τ', x, C, h, hC => by
    unfold fit at h
    split at h
    · next r o =>
      split at h
      · next t ht =>
        cases h
        have e1 := hC (o = o') (by simp); subst e1
        obtain ⟨a1, a2, a3, a4⟩ := addP_ext ht
        refine ⟨a1, a4, fun σ hσ => ?_⟩
        unfold EV.av AV.sg
        rw [(hσ q a2).2, a3]; exact Gv.r
      · cases h
    · cases h
  | .osl q n', τ, τ', x, C, h, hC => by
    unfold fit at h
    split at h
    · next r n =>
      split at h
      · next t ht =>
        cases h
        have e1 := hC (n = n') (by simp); subst e1
        obtain ⟨a1, a2, a3, a4⟩ := addP_ext ht
        refine ⟨a1, a4, fun σ hσ => ?_⟩
        unfold EV.av AV.sg
        rw [(hσ q a2).2, a3]; exact Gv.r
      · cases h
    · cases h
  | .agg m, τ, τ', x, C, h, hC => by
    unfold fit at h
    split at h
    · next l =>
      obtain ⟨a1, a2, a3⟩ := fitL_ok m h hC
      refine ⟨a1, a2, fun σ hσ => ?_⟩
      unfold EV.av AV.sg
      intro w Pub φ u hu
      unfold RA at hu ⊢
      obtain ⟨vs, e, hu⟩ := hu
      exact ⟨vs, e, (a3 σ hσ).R hu⟩
    · cases h
  | .tup m, τ, τ', x, C, h, hC => by
    unfold fit at h
    split at h
    · next l =>
      obtain ⟨a1, a2, a3⟩ := fitL_ok m h hC
      refine ⟨a1, a2, fun σ hσ => ?_⟩
      unfold EV.av AV.sg
      intro w Pub φ u hu
      unfold RA at hu ⊢
      obtain ⟨vs, e, hu⟩ := hu
      exact ⟨vs, e, (a3 σ hσ).R hu⟩
    · cases h
  | .po q s i o, τ, τ', x, C, h, hC => by
    unfold fit at h; cases h
  | .cnd g z, τ, τ', x, C, h, hC => by
    unfold fit at h; cases h
  | .pb l i, τ, τ', x, C, h, hC => by
    unfold fit at h; cases h
    have e := hC (x = .pb l i) (by simp); subst e
    exact ⟨Ext.refl _, id, fun σ _ => by unfold EV.av AV.sg; exact Gv.r⟩
  | .pz n s f i o, τ, τ', x, C, h, hC => by
    unfold fit at h; cases h
    have e := hC (x = .pz n s f i o) (by simp); subst e
    exact ⟨Ext.refl _, id, fun σ _ => by unfold EV.av AV.sg; exact Gv.r⟩
  | .raw z, τ, τ', x, C, h, hC => by
    unfold fit at h; cases h
    have e := hC (x = .raw z) (by simp); subst e
    exact ⟨Ext.refl _, id, fun σ _ => by unfold EV.av AV.sg; exact Gv.r⟩
theorem fitL_ok : ∀ (ys : List EV) {τ τ' : List (Nat × Nat)} {xs : List EV} {C : List Prop}, fitL τ xs ys = some (C, τ') → (∀ c ∈ C, c) →
    Ext τ' τ ∧ (sgOk τ = true → sgOk τ' = true) ∧ ∀ σ, Ext σ τ' → AllGv (avL xs) (sgL σ (avL ys))
  | [], τ, τ', xs, C, h, hC => by
    unfold fitL at h
    split at h
    · cases h; exact ⟨Ext.refl _, id, fun σ _ => AllGv.nil⟩
    · cases h
  | y :: ys, τ, τ', xs, C, h, hC => by
    unfold fitL at h
    split at h
    · next x xs' =>
      split at h
      · next C1 τ1 h1 =>
        split at h
        · next C2 τ2 h2 =>
          cases h
          obtain ⟨a1, a2, a3⟩ := fit_ok y h1 (fun c hc => hC c (List.mem_append_left _ hc))
          obtain ⟨b1, b2, b3⟩ := fitL_ok ys h2 (fun c hc => hC c (List.mem_append_right _ hc))
          refine ⟨b1.trans a1, fun ho => b2 (a2 ho), fun σ hσ => ?_⟩
          unfold avL sgL
          exact AllGv.cons (a3 σ (hσ.trans b1)) (b3 σ hσ)
        · cases h
      · cases h
    · cases h
end
end Go.Proofs.Ytnopdnclefopbaa
