/- A call that is given blocks of its caller's own, under the contract's names. It names no function of the program. -/
import Derived.Test.YtnopdnclefopbaaAbsDraw
namespace Go.Proofs.Ytnopdnclefopbaa
open Go.RowKit
set_option linter.unusedVariables false
set_option linter.unusedSimpArgs false

/-- Names are turned by a list of pairs. -/
def sg (σ : List (Nat × Nat)) (q : Nat) : Nat := look 0 σ q
/-- Which name is turned to r? -/
def sgi (r : Nat) : List (Nat × Nat) → Option Nat
  | [] => none
  | (q, x) :: σ => bif Nat.beq x r then some q else sgi r σ
def domN (q : Nat) : List (Nat × Nat) → Bool
  | [] => false
  | (k, _) :: σ => Nat.beq k q || domN q σ
/-- No name stands twice, on either side. -/
def sgOk : List (Nat × Nat) → Bool
  | [] => true
  | (q, x) :: σ => !domN q σ && (sgi x σ).isNone && sgOk σ
mutual
def AV.sg (σ : List (Nat × Nat)) : AV → AV
  | .p x => .p x
  | .agg l => .agg (sgL σ l)
  | .tup l => .tup (sgL σ l)
  | .own q off => .own (Ytnopdnclefopbaa.sg σ q) off
  | .osl q n => .osl (Ytnopdnclefopbaa.sg σ q) n
  | .cnd g x => .cnd g (AV.sg σ x)
  | .any => .any
def sgL (σ : List (Nat × Nat)) : List AV → List AV
  | [] => []
  | x :: xs => AV.sg σ x :: sgL σ xs
end
mutual
/-- All names are turned. -/
def AV.inD (σ : List (Nat × Nat)) : AV → Bool
  | .p _ => true
  | .agg l => inDL σ l
  | .tup l => inDL σ l
  | .own q _ => domN q σ
  | .osl q _ => domN q σ
  | .cnd _ x => AV.inD σ x
  | .any => true
def inDL (σ : List (Nat × Nat)) : List AV → Bool
  | [] => true
  | x :: xs => AV.inD σ x && inDL σ xs
end
def OB.sg (σ : List (Nat × Nat)) : OB → OB
  | .box cells t => .box (sgL σ cells) t
  | x => x
def OB.inD (σ : List (Nat × Nat)) : OB → Bool
  | .box cells _ => inDL σ cells
  | _ => true
theorem sgi_sg : ∀ {σ : List (Nat × Nat)} {q : Nat}, sgOk σ = true → domN q σ = true → sgi (sg σ q) σ = some q
  | [], q, _, h => by cases h
  | (k, x) :: σ, q, ho, h => by
    simp only [sgOk, Bool.and_eq_true, Bool.not_eq_true'] at ho
    obtain ⟨⟨h1, h2⟩, h3⟩ := ho
    unfold sg
    rw [look_cons]
    by_cases e : k = q
    · subst e; simp [sgi]
    · rw [if_neg e]
      have hd : domN q σ = true := by
        simp only [domN, Bool.or_eq_true] at h
        rcases h with h | h
        · exact absurd (Nat.eq_of_beq_eq_true h) e
        · exact h
      have ih := sgi_sg h3 hd
      unfold sg at ih
      simp only [sgi]
      cases hx : Nat.beq x (look 0 σ q) with
      | false => exact ih
      | true =>
        have := Nat.eq_of_beq_eq_true hx
        rw [← this] at ih; rw [ih] at h2; cases h2
theorem sgi_some : ∀ {σ : List (Nat × Nat)} {r q : Nat}, sgOk σ = true → sgi r σ = some q → domN q σ = true ∧ sg σ q = r
  | [], r, q, _, h => by cases h
  | (k, x) :: σ, r, q, ho, h => by
    simp only [sgOk, Bool.and_eq_true, Bool.not_eq_true'] at ho
    simp only [sgi] at h
    unfold sg
    rw [look_cons]
    cases hx : Nat.beq x r with
    | true =>
      rw [hx] at h; simp at h; subst h
      exact ⟨by simp [domN], by rw [if_pos rfl]; exact Nat.eq_of_beq_eq_true hx⟩
    | false =>
      rw [hx] at h; simp at h
      obtain ⟨h1, h2⟩ := sgi_some ho.2 h
      have hne : k ≠ q := fun e => by subst e; rw [h1] at ho; simp at ho
      exact ⟨by simp [domN, h1], by rw [if_neg hne]; exact h2⟩
section
variable {w : World} {Pub : Nat → Nat → Prop} {φ ψ : Ghost} {σ : List (Nat × Nat)}
mutual
/-- What a turned value is, under places that are turned back. -/
theorem RA_sg (H : ∀ q, domN q σ = true → ψ (sg σ q) = φ q) : ∀ (x : AV) (u : Value), x.inD σ = true → (RA w Pub ψ (x.sg σ) u ↔ RA w Pub φ x u)
  | .p x, u, _ => by simp only [AV.sg, RA]
  | .agg l, u, h => by
    unfold AV.inD at h
    simp only [AV.sg, RA]
    constructor
    · rintro ⟨vs, e, k⟩; exact ⟨vs, e, (RAs_sg H l vs h).1 k⟩
    · rintro ⟨vs, e, k⟩; exact ⟨vs, e, (RAs_sg H l vs h).2 k⟩
  | .tup l, u, h => by
    unfold AV.inD at h
    simp only [AV.sg, RA]
    constructor
    · rintro ⟨vs, e, k⟩; exact ⟨vs, e, (RAs_sg H l vs h).1 k⟩
    · rintro ⟨vs, e, k⟩; exact ⟨vs, e, (RAs_sg H l vs h).2 k⟩
  | .own q off, u, h => by unfold AV.inD at h; simp only [AV.sg, RA, H q h]
  | .osl q n, u, h => by unfold AV.inD at h; simp only [AV.sg, RA, H q h]
  | .cnd g x, u, h => by
    unfold AV.inD at h
    simp only [AV.sg, RA]
    constructor
    · rintro ⟨k1, k2⟩; exact ⟨fun hg => (RA_sg H x u h).1 (k1 hg), k2⟩
    · rintro ⟨k1, k2⟩; exact ⟨fun hg => (RA_sg H x u h).2 (k1 hg), k2⟩
  | .any, u, _ => by simp only [AV.sg, RA]
theorem RAs_sg (H : ∀ q, domN q σ = true → ψ (sg σ q) = φ q) : ∀ (l : List AV) (us : List Value), inDL σ l = true → (RAs w Pub ψ (sgL σ l) us ↔ RAs w Pub φ l us)
  | [], us, _ => by simp only [sgL, RAs]
  | x :: xs, us, h => by
    simp only [inDL, Bool.and_eq_true] at h
    simp only [sgL, RAs]
    constructor
    · rintro ⟨u, us', e, k1, k2⟩; exact ⟨u, us', e, (RA_sg H x u h.1).1 k1, (RAs_sg H xs us' h.2).1 k2⟩
    · rintro ⟨u, us', e, k1, k2⟩; exact ⟨u, us', e, (RA_sg H x u h.1).2 k1, (RAs_sg H xs us' h.2).2 k2⟩
end
theorem Hp_sg (H : ∀ q, domN q σ = true → ψ (sg σ q) = φ q) {q : Nat} (hq : domN q σ = true) {ob : OB} (hi : ob.inD σ = true) : Hp w Pub ψ (sg σ q) (ob.sg σ) ↔ Hp w Pub φ q ob := by
  cases ob with
  | dead => exact Iff.rfl
  | row cells t sz pub => simp only [OB.sg, Hp, H q hq]
  | box cells t =>
    simp only [OB.sg, Hp, H q hq]
    constructor
    · rintro ⟨b, cur, k1, k2, k3, k4⟩; exact ⟨b, cur, k1, k2, (RAs_sg H cells _ hi).1 k3, k4⟩
    · rintro ⟨b, cur, k1, k2, k3, k4⟩; exact ⟨b, cur, k1, k2, (RAs_sg H cells _ hi).2 k3, k4⟩
end
/-- The blocks of a contract, under the caller's names. -/
def sgH (σ : List (Nat × Nat)) : List (Nat × OB) → List (Nat × OB)
  | [] => []
  | (q, ob) :: h => (sg σ q, ob.sg σ) :: sgH σ h
def inDH (σ : List (Nat × Nat)) : List (Nat × OB) → Bool
  | [] => true
  | (q, ob) :: h => domN q σ && ob.inD σ && inDH σ h
/-- The blocks that come in are gone. -/
def deadH (σ : List (Nat × Nat)) : List (Nat × OB) → List (Nat × OB)
  | [] => []
  | (q, _) :: h => (sg σ q, .dead) :: deadH σ h
/-- The blocks that come in are those of the caller's. -/
def sameH (st : AS) (σ : List (Nat × Nat)) : List (Nat × OB) → Prop
  | [] => True
  | (q, ob) :: h => st.ob (sg σ q) = ob.sg σ ∧ ob.alive = true ∧ sameH st σ h
/-- Names of the contract that do not come in are free. -/
def newOk (st : AS) (kp : List Nat) (hin : List (Nat × OB)) : List (Nat × Nat) → Bool
  | [] => true
  | (q, x) :: σ => ((look OB.dead hin q).alive || st.free kp x) && newOk st kp hin σ
theorem look_sgH {σ : List (Nat × Nat)} (ho : sgOk σ = true) {q : Nat} (hq : domN q σ = true) : ∀ {h : List (Nat × OB)}, inDH σ h = true → look OB.dead (sgH σ h) (sg σ q) = (look OB.dead h q).sg σ
  | [], _ => rfl
  | (k, ob) :: h, hi => by
    simp only [inDH, Bool.and_eq_true] at hi
    simp only [sgH, look_cons]
    by_cases e : k = q
    · subst e; rw [if_pos rfl, if_pos rfl]
    · have : sg σ k ≠ sg σ q := fun e2 => by
        have h1 := sgi_sg ho hi.1.1
        have h2 := sgi_sg ho hq
        rw [e2, h2] at h1; injection h1 with h1; exact e h1.symm
      rw [if_neg e, if_neg this]; exact look_sgH ho hq hi.2
theorem look_sgH_out {σ : List (Nat × Nat)} {r : Nat} (hr : sgi r σ = none) (ho : sgOk σ = true) : ∀ {h : List (Nat × OB)}, inDH σ h = true → look OB.dead (sgH σ h) r = .dead
  | [], _ => rfl
  | (k, ob) :: h, hi => by
    simp only [inDH, Bool.and_eq_true] at hi
    simp only [sgH, look_cons]
    have : sg σ k ≠ r := fun e => by subst e; rw [sgi_sg ho hi.1.1] at hr; cases hr
    rw [if_neg this]; exact look_sgH_out hr ho hi.2
theorem inDH_look {σ : List (Nat × Nat)} {q : Nat} : ∀ {h : List (Nat × OB)}, inDH σ h = true → (look OB.dead h q).inD σ = true ∧ ((look OB.dead h q).alive = true → domN q σ = true)
  | [], _ => ⟨rfl, fun h => by cases h⟩
  | (k, ob) :: h, hi => by
    simp only [inDH, Bool.and_eq_true] at hi
    rw [look_cons]
    by_cases e : k = q
    · subst e; rw [if_pos rfl]; exact ⟨hi.1.2, fun _ => hi.1.1⟩
    · rw [if_neg e]; exact inDH_look hi.2
theorem sg_alive {σ : List (Nat × Nat)} {ob : OB} : (ob.sg σ).alive = ob.alive := by cases ob <;> rfl
theorem sameH_look {st : AS} {σ : List (Nat × Nat)} {q : Nat} : ∀ {h : List (Nat × OB)}, sameH st σ h → (look OB.dead h q).alive = true → look OB.dead st.heap (sg σ q) = (look OB.dead h q).sg σ
  | [], _, ha => by cases ha
  | (k, ob) :: h, hs, ha => by
    obtain ⟨h1, _, h2⟩ := hs
    rw [look_cons] at ha ⊢
    by_cases e : k = q
    · subst e; rw [if_pos rfl]; exact h1
    · rw [if_neg e] at ha ⊢; exact sameH_look h2 ha
def hasK {α : Type} (r : Nat) : List (Nat × α) → Bool
  | [] => false
  | (k, _) :: l => Nat.beq k r || hasK r l
theorem look_app {α : Type} {d : α} (X : List (Nat × α)) (r : Nat) : ∀ (l : List (Nat × α)), look d (l ++ X) r = if hasK r l = true then look d l r else look d X r
  | [] => by simp [hasK]
  | (k, x) :: l => by
    rw [List.cons_append, look_cons, look_cons]
    by_cases e : k = r
    · subst e; simp [hasK]
    · have hb : Nat.beq k r = false := by
        cases hb : Nat.beq k r
        · rfl
        · exact absurd (Nat.eq_of_beq_eq_true hb) e
      rw [if_neg e, if_neg e, look_app X r l]
      simp only [hasK, hb, Bool.false_or]
theorem hasK_sgH {σ : List (Nat × Nat)} {r : Nat} (hr : sgi r σ = none) (ho : sgOk σ = true) : ∀ {h : List (Nat × OB)}, inDH σ h = true → hasK r (sgH σ h) = false
  | [], _ => rfl
  | (k, ob) :: h, hi => by
    simp only [inDH, Bool.and_eq_true] at hi
    simp only [sgH, hasK, hasK_sgH hr ho hi.2, Bool.or_false]
    cases hb : Nat.beq (sg σ k) r
    · rfl
    · have := Nat.eq_of_beq_eq_true hb; subst this; rw [sgi_sg ho hi.1.1] at hr; cases hr
theorem hasK_deadH {σ : List (Nat × Nat)} {r : Nat} (hr : sgi r σ = none) (ho : sgOk σ = true) : ∀ {h : List (Nat × OB)}, inDH σ h = true → hasK r (deadH σ h) = false
  | [], _ => rfl
  | (k, ob) :: h, hi => by
    simp only [inDH, Bool.and_eq_true] at hi
    simp only [deadH, hasK, hasK_deadH hr ho hi.2, Bool.or_false]
    cases hb : Nat.beq (sg σ k) r
    · rfl
    · have := Nat.eq_of_beq_eq_true hb; subst this; rw [sgi_sg ho hi.1.1] at hr; cases hr
theorem look_deadH {σ : List (Nat × Nat)} {r : Nat} : ∀ {h : List (Nat × OB)}, look OB.dead (deadH σ h) r = .dead
  | [] => rfl
  | (k, ob) :: h => by
    simp only [deadH, look_cons]
    split
    · rfl
    · exact look_deadH
theorem hasK_dead_of {σ : List (Nat × Nat)} {q : Nat} : ∀ {h : List (Nat × OB)}, hasK (sg σ q) (deadH σ h) = false → (look OB.dead h q).alive = false
  | [], _ => rfl
  | (k, ob) :: h, hn => by
    simp only [deadH, hasK, Bool.or_eq_false_iff] at hn
    rw [look_cons]
    by_cases e : k = q
    · subst e; simp at hn
    · rw [if_neg e]; exact hasK_dead_of hn.2
theorem sgi_mem : ∀ {σ : List (Nat × Nat)} {r q : Nat}, sgi r σ = some q → (q, r) ∈ σ
  | [], r, q, h => by cases h
  | (k, x) :: σ, r, q, h => by
    simp only [sgi] at h
    cases hx : Nat.beq x r with
    | true =>
      rw [hx] at h; simp at h; subst h
      have := Nat.eq_of_beq_eq_true hx; subst this; simp
    | false => rw [hx] at h; simp at h; exact List.mem_cons_of_mem _ (sgi_mem h)
/-- What lies under the caller's names behind the call. -/
theorem look_behind {σ : List (Nat × Nat)} (ho : sgOk σ = true) {hin hout H : List (Nat × OB)} (hi : inDH σ hin = true) (hu : inDH σ hout = true) (hcov : ∀ p ∈ σ, (look OB.dead hin p.1).alive = true ∨ (look OB.dead H p.2).alive = false) (r : Nat)
    (ha : (look OB.dead (sgH σ hout ++ (deadH σ hin ++ H)) r).alive = true) :
      (∃ q, domN q σ = true ∧ sg σ q = r ∧ (look OB.dead hout q).alive = true ∧ look OB.dead (sgH σ hout ++ (deadH σ hin ++ H)) r = (look OB.dead hout q).sg σ) ∨
      (sgi r σ = none ∧ look OB.dead (sgH σ hout ++ (deadH σ hin ++ H)) r = look OB.dead H r) := by
  rw [look_app, look_app] at ha ⊢
  cases hr : sgi r σ with
  | none =>
    rw [hasK_sgH hr ho hu, hasK_deadH hr ho hi]
    exact .inr ⟨rfl, by simp⟩
  | some q =>
    obtain ⟨h1, h2⟩ := sgi_some ho hr
    refine .inl ⟨q, h1, h2, ?_⟩
    have hl : look OB.dead (sgH σ hout) r = (look OB.dead hout q).sg σ := by rw [← h2]; exact look_sgH ho h1 hu
    by_cases k1 : hasK r (sgH σ hout) = true
    · rw [if_pos k1] at ha ⊢
      rw [hl] at ha ⊢
      rw [sg_alive] at ha
      exact ⟨ha, rfl⟩
    · rw [if_neg k1] at ha
      by_cases k2 : hasK r (deadH σ hin) = true
      · rw [if_pos k2, look_deadH] at ha; cases ha
      · rw [if_neg k2] at ha
        rcases hcov _ (sgi_mem hr) with h | h
        · have := hasK_dead_of (σ := σ) (q := q) (h := hin) (by rw [h2]; simpa using k2)
          rw [this] at h; cases h
        · rw [h] at ha; cases ha

section
variable {P : Program} {E : Env} {kp : List Nat} {n : Nat} {ops : Array Oper} {st st' : AS}
/-- A name of the contract's that does not come in is free. -/
theorem newOk_mem {hin : List (Nat × OB)} : ∀ {σ : List (Nat × Nat)} {p : Nat × Nat}, newOk st kp hin σ = true → p ∈ σ → (look OB.dead hin p.1).alive = true ∨ st.free kp p.2 = true
  | (q, x) :: σ, p, h, hp => by
    simp only [newOk, Bool.and_eq_true, Bool.or_eq_true] at h
    rcases List.mem_cons.1 hp with e | e
    · subst e; exact h.1
    · exact newOk_mem h.2 e
theorem domN_mem : ∀ {σ : List (Nat × Nat)} {q : Nat}, domN q σ = true → (q, sg σ q) ∈ σ
  | (k, x) :: σ, q, h => by
    unfold sg; rw [look_cons]
    by_cases e : k = q
    · subst e; rw [if_pos rfl]; simp
    · rw [if_neg e]
      simp only [domN, Bool.or_eq_true] at h
      rcases h with h | h
      · exact absurd (Nat.eq_of_beq_eq_true h) e
      · exact List.mem_cons_of_mem _ (domN_mem h)

/-- **A call that is given blocks of its caller's own**; σ: the contract's names, as the caller has them. -/
theorem callX {f : FuncId} {d : Option Tmp} {args : List Operand} {argTypes : Array TypeId} {ty : TypeId} {ps : String} {af : Array Edge} {as : List AV} {hin hout : List (Nat × OB)} {res : AV} (σ : List (Nat × Nat)) (hc : callable P f = true)
    (hev : Ev P f hin as hout res) (hsame : sameH st σ hin) (hchk : (sgOk σ && inDL σ as && inDH σ hin && inDH σ hout && res.inD σ && newOk st kp hin σ) = true) (hcl : (closedH hout hout && res.inH hout) = true)
    (hd : ∀ x, d = some x → Nat.blt x n = true) {a : Act} {w : World} {K : Act → World → Prop} {Q : Exit → Act → World → Prop} {φ : Ghost} {Pub : Nat → Nat → Prop} (I : Inv E kp φ Pub st.heap w) (h0 : a.defers = []) (hn : a.tmps.size = n)
    (hs : ∀ s, RA w Pub φ (look .any st.slots s) (a.tmps.getD s undef)) (hA0 : RAs w Pub φ (sgL σ as) (args.map a.eval))
    (hK : ∀ a' w', Sat E kp n ⟨(match d with | some x => (x, res.sg σ) :: st.slots | none => st.slots), sgH σ hout ++ (deadH σ hin ++ st.heap)⟩ a' w' → K a' w') :
    Oper.wp P ⟨d, .call { callee := .value (.func f), args := args.toArray, argTypes }, ty, ps, af, none⟩ a w K Q := by
  simp only [Bool.and_eq_true] at hchk hcl
  obtain ⟨⟨⟨⟨⟨ho, hia⟩, hii⟩, hio⟩, hir⟩, hnew⟩ := hchk
  have hcov : ∀ p ∈ σ, (look OB.dead hin p.1).alive = true ∨ (look OB.dead st.heap p.2).alive = false := fun p hp => (newOk_mem hnew hp).imp id fun h => (free_split h).1
  let φ1 : Ghost := fun q => φ (sg σ q)
  have hinA : ∀ q, (look OB.dead hin q).alive = true → domN q σ = true ∧ look OB.dead st.heap (sg σ q) = (look OB.dead hin q).sg σ ∧ (look OB.dead st.heap (sg σ q)).alive = true := fun q hq => by
    have h1 := sameH_look hsame hq
    exact ⟨(inDH_look hii).2 hq, h1, by rw [h1, sg_alive]; exact hq⟩
  let E1 : Env := ⟨w, fun b => ∃ q c, (look OB.dead hin q).alive = true ∧ φ1 q = some (b, c), Pub, φ1⟩
  have I1 : Inv E1 (hin.map (·.1)) φ1 Pub hin w := by
    refine ⟨rfl, rfl, rfl, Nat.le_refl _, fun _ _ _ => rfl, fun q => ?_, fun q b c hq hb => .inr ⟨q, c, hq, hb⟩, fun q q' b c c' hq hq' hb hb' => ?_, fun _ _ h => h, fun _ _ h => .inl h, I.publ, fun _ _ _ => rfl, fun _ _ => rfl⟩
    · cases ha : (look OB.dead hin q).alive with
      | false => cases hz : look OB.dead hin q <;> rw [hz] at ha <;> first | trivial | cases ha
      | true =>
        obtain ⟨h1, h2, h3⟩ := hinA q ha
        have k := I.own (sg σ q)
        rw [h2] at k
        exact (Hp_sg (ψ := φ) (φ := φ1) (fun _ _ => rfl) h1 (inDH_look hii).1).1 k
    · obtain ⟨h1, h2, h3⟩ := hinA q hq
      obtain ⟨h1', h2', h3'⟩ := hinA q' hq'
      have e := I.inj _ _ b c c' h3 h3' hb hb'
      have k1 := sgi_sg ho h1
      rw [e, sgi_sg ho h1'] at k1
      injection k1 with k1; exact k1.symm
  have hA : RAs w Pub φ1 as (args.map a.eval) := by
    exact (RAs_sg (ψ := φ) (φ := φ1) (fun _ _ => rfl) as _ hia).1 hA0
  have hcall := hev E1 φ1 Pub w (args.map a.eval) rfl rfl I1 hA
  have hrun : (execOp a.eval ⟨d, .call { callee := .value (.func f), args := args.toArray, argTypes }, ty, ps, af, none⟩).run P w = .ok (.enter f (args.map a.eval).toArray) w := by
    simp [execOp, resolve, Act.eval, Deferred.ofValue, invoke, run_callFunc hc]
  unfold Oper.wp
  rw [hrun]
  show Calls P f _ w _
  refine hcall.mono ?_
  rintro e w' ⟨v, φ', Pub', rfl, I', hR⟩
  refine hK _ _ ?_
  have H : Adv w Pub w' Pub' := fun b i hp => ⟨I'.pub0 b i hp, I'.same b i hp⟩
  let ψ : Ghost := fun r => match sgi r σ with | some q => φ' q | none => φ r
  have hψ : ∀ q, domN q σ = true → ψ (sg σ q) = φ' q := fun q hq => by show (match sgi (sg σ q) σ with | some q => φ' q | none => _) = _; rw [sgi_sg ho hq]
  have hψo : ∀ r, sgi r σ = none → ψ r = φ r := fun r hr => by show (match sgi r σ with | some q => φ' q | none => _) = _; rw [hr]
  have hkept : ∀ q, (look OB.dead hin q).alive = true → φ' q = φ1 q := fun q hq => I'.kept q (by
    have := look_mem hq
    exact List.mem_map.2 ⟨_, this, rfl⟩)
  -- names that somebody speaks of already
  have hstale : ∀ r, (∀ x, sgi r σ = some x → (look OB.dead hin x).alive = true) → ψ r = φ r := fun r hr => by
    cases hz : sgi r σ with
    | none => exact hψo r hz
    | some q =>
      obtain ⟨h1, h2⟩ := sgi_some ho hz
      rw [← h2, hψ q h1, hkept q (hr q hz)]
  have hspk : ∀ r, (st.free kp r = false) → ψ r = φ r := fun r hr => hstale r fun q hq => by
    rcases newOk_mem hnew (sgi_mem hq) with h | h
    · exact h
    · rw [hr] at h; cases h
  have hsA : ∀ b, E1.A b → b < w.heap.size ∧ (E.w0.heap.size ≤ b ∨ E.A b) := fun b ⟨q, c, hq, hb⟩ => by
    obtain ⟨h1, h2, h3⟩ := hinA q hq
    exact ⟨I.lt h3 hb, I.mine _ b c h3 hb⟩
  have hother : ∀ r b c, sgi r σ = none → (look OB.dead st.heap r).alive = true → φ r = some (b, c) → ¬ E1.A b := fun r b c hr ha hb ⟨q, c', hq, hb'⟩ => by
    obtain ⟨h1, h2, h3⟩ := hinA q hq
    have := I.inj r _ b c c' ha h3 hb hb'
    rw [this, sgi_sg ho h1] at hr; cases hr
  have hbeh := look_behind ho hii hio hcov
  have IN : Inv E kp ψ Pub' (sgH σ hout ++ (deadH σ hin ++ st.heap)) w' := by
    refine I.next I'.os I'.tape I'.output I'.size (fun b hb hA => I'.block b (Nat.lt_of_lt_of_le hb I.size) (fun h => by
        rcases (hsA b h).2 with h | h
        · omega
        · exact hA h)) H (fun b i hp => ?_) I'.publ (fun r hr => ?_) (fun r b c hr hb => ?_) (fun r r' b c c' hr hr' hb hb' => ?_) (fun r hr => ?_)
    · rcases I'.pubs b i hp with h | h | h
      · exact .inl h
      · exact .inr (.inl (Nat.le_trans I.size h))
      · exact .inr (hsA b h).2
    · rcases hbeh r hr with ⟨q, h1, h2, h3, h4⟩ | ⟨h1, h2⟩
      · rw [h4, ← h2]
        exact (Hp_sg (ψ := ψ) (φ := φ') hψ h1 (inDH_look hio).1).2 (I'.own q)
      · rw [h2] at hr ⊢
        refine Hp_keep H (fun b c hb => ⟨I'.block b (I.lt hr hb) (hother r b c h1 hr hb), fun i hp => ?_⟩) (hψo r h1) (fun x hx => hspk x ?_) (I.own r)
        · rcases I'.pubs b i hp with h | h | h
          · exact h
          · exact absurd (I.lt hr hb) (Nat.not_lt.2 h)
          · exact absurd h (hother r b c h1 hr hb)
        · cases hf : st.free kp x with
          | false => rfl
          | true => rw [look_hHas (free_split hf).2.1] at hx; cases hx
    · rcases hbeh r hr with ⟨q, h1, h2, h3, h4⟩ | ⟨h1, h2⟩
      · rw [← h2, hψ q h1] at hb
        rcases I'.mine q b c h3 hb with h | h
        · exact .inl (Nat.le_trans I.size h)
        · exact (hsA b h).2
      · rw [hψo r h1] at hb; rw [h2] at hr; exact I.mine r b c hr hb
    · rcases hbeh r hr with ⟨q, h1, h2, h3, h4⟩ | ⟨h1, h2⟩ <;> rcases hbeh r' hr' with ⟨q', k1, k2, k3, k4⟩ | ⟨k1, k2⟩
      · rw [← h2, hψ q h1] at hb; rw [← k2, hψ q' k1] at hb'
        rw [← h2, ← k2, I'.inj q q' b c c' h3 k3 hb hb']
      · rw [← h2, hψ q h1] at hb; rw [hψo r' k1] at hb'; rw [k2] at hr'
        rcases I'.mine q b c h3 hb with h | h
        · exact absurd (I.lt hr' hb') (Nat.not_lt.2 h)
        · exact absurd h (hother r' b c' k1 hr' hb')
      · rw [hψo r h1] at hb; rw [← k2, hψ q' k1] at hb'; rw [h2] at hr
        rcases I'.mine q' b c' k3 hb' with h | h
        · exact absurd (I.lt hr hb) (Nat.not_lt.2 h)
        · exact absurd h (hother r b c h1 hr hb)
      · rw [hψo r h1] at hb; rw [hψo r' k1] at hb'; rw [h2] at hr; rw [k2] at hr'; exact I.inj r r' b c c' hr hr' hb hb'
    · refine hspk r ?_
      cases hf : st.free kp r with
      | false => rfl
      | true => exact absurd hr (free_split hf).2.2.2
  have hR' : RA w' Pub' ψ (res.sg σ) v := (RA_sg (ψ := ψ) (φ := φ') hψ res v hir).2 hR
  have hS : ∀ s, RA w' Pub' ψ (look .any st.slots s) (a.tmps.getD s undef) := fun s => RA_mono H _ _ (fun x hx => hspk x (by
      cases hf : st.free kp x with
      | false => rfl
      | true => rw [look_sHas (free_split hf).2.2.1] at hx; cases hx)) (hs s)
  cases d with
  | none => exact ⟨ψ, Pub', IN, h0, hn, hS⟩
  | some x => exact Sat.put IN h0 hn hS (hd x rfl) hR'

theorem S_callH {f : FuncId} {d : Option Tmp} {args : List Operand} {argTypes : Array TypeId} {ty : TypeId} {ps : String} {af : Array Edge} {as : List AV} {hin hout : List (Nat × OB)} {res : AV} (σ : List (Nat × Nat)) (hc : callable P f = true)
    (hev : Ev P f hin as hout res) (hargs : AllGv (args.map st.ev) (sgL σ as)) (hsame : sameH st σ hin) (hchk : (sgOk σ && inDL σ as && inDH σ hin && inDH σ hout && res.inD σ && newOk st kp hin σ) = true) (hcl : (closedH hout hout && res.inH hout) = true)
    (hd : ∀ x, d = some x → Nat.blt x n = true) :
    Step P E kp n ops ⟨d, .call { callee := .value (.func f), args := args.toArray, argTypes }, ty, ps, af, none⟩ st ⟨(match d with | some x => (x, res.sg σ) :: st.slots | none => st.slots), sgH σ hout ++ (deadH σ hin ++ st.heap)⟩ := by
  intro a w K Q ⟨φ, Pub, I, h0, hn, hs⟩ hK
  rw [if_pos (by rfl)]
  exact callX σ hc hev hsame hchk hcl hd I h0 hn hs (hargs.R (evs_R (st := st) hs args)) (fun a' w' h => hK a' w' (by cases d <;> exact h))

theorem mem_sgH {σ : List (Nat × Nat)} {q : Nat} {x : OB} : ∀ {h : List (Nat × OB)}, (q, x) ∈ h → (sg σ q, x.sg σ) ∈ sgH σ h
  | (k, ob) :: h, hm => by
    rcases List.mem_cons.1 hm with e | e
    · cases e; simp [sgH]
    · simp only [sgH]; exact List.mem_cons_of_mem _ (mem_sgH e)
theorem newOk_of {hin hout : List (Nat × OB)} {τ : List (Nat × Nat)} (hf : freeAll st kp (sgH τ hout) = true) : ∀ {σ : List (Nat × Nat)}, (∀ p ∈ σ, sg τ p.1 = p.2) → (σ.all fun p => (look OB.dead hout p.1).alive) = true → newOk st kp hin σ = true
  | [], _, _ => rfl
  | (q, x) :: σ, hs, hc => by
    simp only [List.all_cons, Bool.and_eq_true] at hc
    simp only [newOk, Bool.and_eq_true, Bool.or_eq_true]
    refine ⟨.inr ?_, newOk_of hf (fun p hp => hs p (List.mem_cons_of_mem _ hp)) hc.2⟩
    have := freeAll_mem hf (mem_sgH (look_mem hc.1))
    have e := hs (q, x) (by simp)
    simp only at e this
    rw [← e]; exact this
theorem sg_self : ∀ {σ : List (Nat × Nat)}, sgOk σ = true → ∀ p ∈ σ, sg σ p.1 = p.2
  | (k, x) :: σ, ho, p, hp => by
    simp only [sgOk, Bool.and_eq_true, Bool.not_eq_true'] at ho
    unfold sg; rw [look_cons]
    rcases List.mem_cons.1 hp with e | e
    · subst e; rw [if_pos rfl]
    · have hne : k ≠ p.1 := fun e2 => by
        have : domN p.1 σ = true := by
          clear ho hp
          induction σ with
          | nil => cases e
          | cons q σ ih =>
            rcases List.mem_cons.1 e with e | e
            · subst e; simp [domN]
            · simp [domN, ih e]
        rw [← e2, ho.1.1] at this; cases this
      rw [if_neg hne]; exact sg_self ho.2 p e
/-- **A call** on shared values that makes blocks for its caller alone. -/
theorem S_callN {f : FuncId} {d : Option Tmp} {args : List Operand} {argTypes : Array TypeId} {ty : TypeId} {ps : String} {af : Array Edge} {as : List AV} {hout : List (Nat × OB)} {res : AV} (σ : List (Nat × Nat)) (hc : callable P f = true)
    (hev : Ev P f [] as hout res) (hargs : AllGv (args.map st.ev) (sgL σ as)) (hchk : (sgOk σ && inDL σ as && inDH σ hout && res.inD σ && (σ.all fun p => (look OB.dead hout p.1).alive)) = true) (hcl : (closedH hout hout && res.inH hout) = true)
    (hf : freeAll st kp (sgH σ hout) = true) (hd : ∀ x, d = some x → Nat.blt x n = true) :
    Step P E kp n ops ⟨d, .call { callee := .value (.func f), args := args.toArray, argTypes }, ty, ps, af, none⟩ st ⟨(match d with | some x => (x, res.sg σ) :: st.slots | none => st.slots), sgH σ hout ++ st.heap⟩ := by
  simp only [Bool.and_eq_true] at hchk
  obtain ⟨⟨⟨⟨h1, h2⟩, h3⟩, h4⟩, h5⟩ := hchk
  exact S_callH σ hc hev hargs trivial (by
    simp only [Bool.and_eq_true]
    exact ⟨⟨⟨⟨⟨h1, h2⟩, rfl⟩, h3⟩, h4⟩, newOk_of hf (sg_self h1) h5⟩) hcl hd
end
theorem nn_agg (l : List PV) : (PV.agg l).nn = .agg (PV.nnL l) := rfl
theorem nn_int (k : IntKind) (n : Int) : (PV.v (.int k n)).nn = .v (.int k n) := rfl
theorem nn_bool (b : Bool) : (PV.v (.bool b)).nn = .v (.bool b) := rfl
theorem nn_sl (l : List PV) (n : Nat) : (PV.sl l n).nn = .sl l n := rfl
theorem nn1_int (k : IntKind) (n : Int) : (PV.v (.int k n)).nn1 = .v (.int k n) := rfl
theorem nn1_bool (b : Bool) : (PV.v (.bool b)).nn1 = .v (.bool b) := rfl
theorem nn1_str (l : List UInt8) : (strP l).nn1 = strP l := rfl
theorem nn_str (l : List UInt8) : (strP l).nn = strP l := rfl
theorem nn1_bytes (l : List UInt8) : (bytesP l).nn1 = bytesP l := rfl
theorem nn_bytes (l : List UInt8) : (bytesP l).nn = bytesP l := rfl
theorem nn1_nil : (PV.v (.slice none 0 0)).nn1 = .sl [] 0 := rfl
theorem nn1_sl (l : List PV) (n : Nat) : (PV.sl l n).nn1 = .sl l n := rfl
theorem nn1_agg (l : List PV) : (PV.agg l).nn1 = .agg l := rfl
theorem nnL_nil : PV.nnL [] = [] := rfl
theorem nnL_cons (x : PV) (l : List PV) : PV.nnL (x :: l) = x.nn1 :: PV.nnL l := rfl
end Go.Proofs.Ytnopdnclefopbaa
