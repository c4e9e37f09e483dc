/- Values without addresses: what a value reads as while nobody writes to it (PV), what a call holds of its own (AV, OB), and how both stand to the model's values and worlds. It names no function of the program. -/
import Derived.Below
import Derived.WalkKit
import Derived.RegionTactic
import Derived.OrdersHeld
import Derived.Laws.AppendOwn
import Derived.Laws.AppendOwnNone
namespace Go.Proofs.Ytnopdnclefopbaa
open Go.RowKit
set_option linter.unusedVariables false
set_option linter.unusedSimpArgs false

/-- A value that is shared and no longer written: what it reads as. Cells of memory stand one by one. -/
inductive PV where
  | v (x : Value)
  | agg (l : List PV)
  | tup (l : List PV)
  | pp (cells : List PV) (off : Nat)
  | sl (cells : List PV) (n : Nat)

/-- A value of a call's own frame: shared, or with parts that lie in blocks of its own (by name). -/
inductive AV where
  | p (x : PV)
  | agg (l : List AV)
  | tup (l : List AV)
  | own (r off : Nat)
  | osl (r n : Nat)
  | cnd (g : Bool) (x : AV)
  | any

/-- A block of the call's own: a variable; a row of elements (the first 'pub' cells are written no more). -/
inductive OB where
  | box (cells : List AV) (t : TypeId)
  | row (cells : List PV) (t : TypeId) (sz pub : Nat)
  | dead

def OB.alive : OB → Bool
  | .dead => false
  | _ => true

abbrev Ghost := Nat → Option (Nat × Nat)

section
variable (w : World) (Pub : Nat → Nat → Prop)
mutual
def RP : PV → Value → Prop
  | .v x, u => u = x
  | .agg l, u => ∃ vs : List Value, u = .agg vs.toArray ∧ RPs l vs
  | .tup l, u => ∃ vs : List Value, u = .tuple vs.toArray ∧ RPs l vs
  | .pp cells off, u => ∃ b o, u = .pointer (some ⟨b, o + off, none⟩) ∧ RPc cells b o
  | .sl cells n, u => ∃ a c, u = .slice a n c ∧ n ≤ c ∧ c ≤ maxLen ∧ (a = none → c = 0) ∧ (n = 0 ∨ ∃ b o, a = some ⟨b, o, none⟩ ∧ RPc cells b o)
def RPs : List PV → List Value → Prop
  | [], vs => vs = []
  | p :: ps, vs => ∃ u us, vs = u :: us ∧ RP p u ∧ RPs ps us
def RPc : List PV → Nat → Nat → Prop
  | [], _, _ => True
  | p :: ps, b, o => (∃ u, w.cell? ⟨b, o, none⟩ = some u ∧ Pub b o ∧ u.oneCell' = true ∧ RP p u) ∧ RPc ps b (o + 1)
end
variable (φ : Ghost)
mutual
def RA : AV → Value → Prop
  | .p x, u => RP w Pub x u
  | .agg l, u => ∃ vs : List Value, u = .agg vs.toArray ∧ RAs l vs
  | .tup l, u => ∃ vs : List Value, u = .tuple vs.toArray ∧ RAs l vs
  | .own r off, u => ∃ b c, φ r = some (b, c) ∧ u = .pointer (some ⟨b, off, none⟩)
  | .osl r n, u => (∃ b c, φ r = some (b, c) ∧ u = .slice (some ⟨b, 0, none⟩) n c ∧ n ≤ c) ∨ (φ r = none ∧ n = 0 ∧ u = .slice none 0 0)
  | .cnd g x, u => (g = true → RA x u) ∧ (g = false → u = undef)
  | .any, _ => True
def RAs : List AV → List Value → Prop
  | [], vs => vs = []
  | p :: ps, vs => ∃ u us, vs = u :: us ∧ RA p u ∧ RAs ps us
end
/-- No cell of the block is frozen (the mark of bytes out of a string lies behind its end). -/
def FrOk (n : Nat) (fr : Nat × Nat) : Prop := fr = (0, 0) ∨ n ≤ fr.1
/-- What holds of a block of the call's own. -/
def Hp (r : Nat) : OB → Prop
  | .dead => True
  | .box cells t => ∃ b cur, φ r = some (b, 1) ∧ w.heap[b]? = some (.cells cur t (0, 0)) ∧ RAs w Pub φ cells cur.toList ∧ (∀ u ∈ cur.toList, u.oneCell' = true) ∧ ∀ i, ¬ Pub b i
  | .row cells t sz pub => (φ r = none ∧ cells = []) ∨ ∃ b c cur fr, φ r = some (b, c) ∧ (w.heap[b]? = some (.cells cur t fr) ∧ FrOk cur.size fr) ∧ c ≤ maxLen ∧ cur.size = c * sz ∧ cells.length ≤ cur.size ∧
      RPs w Pub cells (cur.toList.take cells.length) ∧ (∀ u ∈ cur.toList.take cells.length, u.oneCell' = true) ∧ ∀ i, Pub b i → i < pub ∧ i < cells.length
end

def look {α : Type} (d : α) : List (Nat × α) → Nat → α
  | [], _ => d
  | (k, x) :: r, s => bif Nat.beq k s then x else look d r s
theorem look_cons {α : Type} (d : α) (k : Nat) (x : α) (r : List (Nat × α)) (s : Nat) : look d ((k, x) :: r) s = if k = s then x else look d r s := by
  by_cases h : k = s
  · subst h; simp [look]
  · have : Nat.beq k s = false := by
      cases hb : Nat.beq k s
      · rfl
      · exact absurd (Nat.eq_of_beq_eq_true hb) h
    rw [if_neg h]; simp only [look, this]; rfl

structure AS where
  slots : List (Nat × AV)
  heap : List (Nat × OB)
def AS.put (st : AS) (d : Nat) (x : AV) : AS := ⟨(d, x) :: st.slots, st.heap⟩
def AS.set (st : AS) (r : Nat) (x : OB) : AS := ⟨st.slots, (r, x) :: st.heap⟩
def AS.at_ (st : AS) (s : Nat) : AV := look .any st.slots s
def AS.ob (st : AS) (r : Nat) : OB := look .dead st.heap r
def AS.ev (st : AS) : Operand → AV
  | .tmp t => look .any st.slots t
  | .const c => .p (.v c)
  | .func f => .p (.v (.func (.func f) #[] #[]))
  | .global _ => .any

/-- Where a call began: its world, the blocks that it was given to write, what was shared, and where its own blocks lie that came in. -/
structure Env where
  w0 : World
  A : Nat → Prop
  Pub0 : Nat → Nat → Prop
  φ0 : Ghost

structure Inv (E : Env) (kp : List Nat) (φ : Ghost) (Pub : Nat → Nat → Prop) (h : List (Nat × OB)) (w : World) : Prop where
  os : w.os = E.w0.os
  tape : w.tape = E.w0.tape
  output : w.output = E.w0.output
  size : E.w0.heap.size ≤ w.heap.size
  block : ∀ b, b < E.w0.heap.size → ¬ E.A b → w.heap[b]? = E.w0.heap[b]?
  own : ∀ r, Hp w Pub φ r (look .dead h r)
  mine : ∀ r b c, (look .dead h r).alive = true → φ r = some (b, c) → E.w0.heap.size ≤ b ∨ E.A b
  inj : ∀ r r' b c c', (look .dead h r).alive = true → (look .dead h r').alive = true → φ r = some (b, c) → φ r' = some (b, c') → r = r'
  pub0 : ∀ b i, E.Pub0 b i → Pub b i
  pubs : ∀ b i, Pub b i → E.Pub0 b i ∨ E.w0.heap.size ≤ b ∨ E.A b
  publ : ∀ b i, Pub b i → b < w.heap.size
  same : ∀ b i, E.Pub0 b i → w.cell? ⟨b, i, none⟩ = E.w0.cell? ⟨b, i, none⟩
  kept : ∀ r, r ∈ kp → φ r = E.φ0 r

def Sat (E : Env) (kp : List Nat) (n : Nat) (st : AS) (a : Act) (w : World) : Prop :=
  ∃ φ Pub, Inv E kp φ Pub st.heap w ∧ a.defers = [] ∧ a.tmps.size = n ∧ ∀ s, RA w Pub φ (look .any st.slots s) (a.tmps.getD s undef)

/-! ### What is shared stays -/
/-- What was shared is shared, and reads as it did. -/
def Adv (w : World) (Pub : Nat → Nat → Prop) (w' : World) (Pub' : Nat → Nat → Prop) : Prop :=
  ∀ b i, Pub b i → Pub' b i ∧ w'.cell? ⟨b, i, none⟩ = w.cell? ⟨b, i, none⟩
theorem Adv.refl (w : World) (Pub : Nat → Nat → Prop) : Adv w Pub w Pub := fun _ _ h => ⟨h, rfl⟩
theorem Adv.trans {w w1 w2 : World} {P0 P1 P2 : Nat → Nat → Prop} (h : Adv w P0 w1 P1) (k : Adv w1 P1 w2 P2) : Adv w P0 w2 P2 :=
  fun b i hp => ⟨(k b i (h b i hp).1).1, ((k b i (h b i hp).1).2).trans (h b i hp).2⟩

section
variable {w w' : World} {Pub Pub' : Nat → Nat → Prop} 
mutual
theorem RP_mono (H : Adv w Pub w' Pub') : ∀ (x : PV) (u : Value), RP w Pub x u → RP w' Pub' x u
  | .v _, _, h => by unfold RP at h ⊢; exact h
  | .agg l, _, h => by
    unfold RP at h ⊢
    obtain ⟨vs, e, h⟩ := h; exact ⟨vs, e, RPs_mono H l vs h⟩
  | .tup l, _, h => by
    unfold RP at h ⊢
    obtain ⟨vs, e, h⟩ := h; exact ⟨vs, e, RPs_mono H l vs h⟩
  | .pp cells off, _, h => by
    unfold RP at h ⊢
    obtain ⟨b, o, e, h⟩ := h; exact ⟨b, o, e, RPc_mono H cells b o h⟩
  | .sl cells n, _, h => by
    unfold RP at h ⊢
    obtain ⟨a, c, e, h1, h2, h2', h3⟩ := h
    refine ⟨a, c, e, h1, h2, h2', h3.imp id ?_⟩
    rintro ⟨b, o, e, h⟩
    exact ⟨b, o, e, RPc_mono H cells b o h⟩
theorem RPs_mono (H : Adv w Pub w' Pub') : ∀ (l : List PV) (vs : List Value), RPs w Pub l vs → RPs w' Pub' l vs
  | [], _, h => by unfold RPs at h ⊢; exact h
  | p :: ps, _, h => by
    unfold RPs at h ⊢
    obtain ⟨u, us, e, h1, h2⟩ := h
    exact ⟨u, us, e, RP_mono H p u h1, RPs_mono H ps us h2⟩
theorem RPc_mono (H : Adv w Pub w' Pub') : ∀ (l : List PV) (b o : Nat), RPc w Pub l b o → RPc w' Pub' l b o
  | [], _, _, h => by unfold RPc; trivial
  | p :: ps, b, o, h => by
    unfold RPc at h ⊢
    obtain ⟨⟨u, hc, hp, h1, hr⟩, ht⟩ := h
    exact ⟨⟨u, ((H b o hp).2).trans hc, (H b o hp).1, h1, RP_mono H p u hr⟩, RPc_mono H ps b (o + 1) ht⟩
end

mutual
def AV.has (r : Nat) : AV → Bool
  | .p _ => false
  | .agg l => hasL r l
  | .tup l => hasL r l
  | .own q _ => Nat.beq q r
  | .osl q _ => Nat.beq q r
  | .cnd _ x => AV.has r x
  | .any => false
def hasL (r : Nat) : List AV → Bool
  | [] => false
  | x :: xs => AV.has r x || hasL r xs
end
variable {φ φ' : Ghost}
mutual
theorem RA_mono (H : Adv w Pub w' Pub') : ∀ (x : AV) (u : Value), (∀ r, AV.has r x = true → φ' r = φ r) → RA w Pub φ x u → RA w' Pub' φ' x u
  | .p x, u, _, h => by unfold RA at h ⊢; exact RP_mono H x u h
  | .agg l, _, hn, h => by
    unfold RA at h ⊢
    obtain ⟨vs, e, h⟩ := h; exact ⟨vs, e, RAs_mono H l vs (fun r hr => hn r (by unfold AV.has; exact hr)) h⟩
  | .tup l, _, hn, h => by
    unfold RA at h ⊢
    obtain ⟨vs, e, h⟩ := h; exact ⟨vs, e, RAs_mono H l vs (fun r hr => hn r (by unfold AV.has; exact hr)) h⟩
  | .own r off, _, hn, h => by
    unfold RA at h ⊢
    rw [hn r (by unfold AV.has; simp)]; exact h
  | .osl r n, _, hn, h => by
    unfold RA at h ⊢
    rw [hn r (by unfold AV.has; simp)]; exact h
  | .cnd g x, u, hn, h => by
    unfold RA at h ⊢
    exact ⟨fun hg => RA_mono H x u (fun r hr => hn r (by unfold AV.has; exact hr)) (h.1 hg), h.2⟩
  | .any, _, _, _ => by unfold RA; trivial
theorem RAs_mono (H : Adv w Pub w' Pub') : ∀ (l : List AV) (vs : List Value), (∀ r, hasL r l = true → φ' r = φ r) → RAs w Pub φ l vs → RAs w' Pub' φ' l vs
  | [], _, _, h => by unfold RAs at h ⊢; exact h
  | p :: ps, _, hn, h => by
    unfold RAs at h ⊢
    obtain ⟨u, us, e, h1, h2⟩ := h
    exact ⟨u, us, e, RA_mono H p u (fun r hr => hn r (by unfold hasL; simp [hr])) h1, RAs_mono H ps us (fun r hr => hn r (by unfold hasL; simp [hr])) h2⟩
end
end

/-! ### Lists of values -/
section
variable {w : World} {Pub : Nat → Nat → Prop}
theorem RPs_length : ∀ {l : List PV} {vs : List Value}, RPs w Pub l vs → vs.length = l.length
  | [], _, h => by unfold RPs at h; subst h; rfl
  | p :: ps, _, h => by
    unfold RPs at h
    obtain ⟨u, us, rfl, _, h⟩ := h
    simp [RPs_length h]
theorem RPs_get : ∀ {l : List PV} {vs : List Value} {i : Nat} {x : PV}, RPs w Pub l vs → l[i]? = some x → ∃ u, vs[i]? = some u ∧ RP w Pub x u
  | [], _, i, x, _, hx => by simp at hx
  | p :: ps, _, 0, x, h, hx => by
    unfold RPs at h
    obtain ⟨u, us, rfl, h1, _⟩ := h
    simp at hx; subst hx
    exact ⟨u, rfl, h1⟩
  | p :: ps, _, i + 1, x, h, hx => by
    unfold RPs at h
    obtain ⟨u, us, rfl, _, h2⟩ := h
    simp at hx
    obtain ⟨u', h3, h4⟩ := RPs_get h2 hx
    exact ⟨u', by simpa using h3, h4⟩
theorem RPs_append : ∀ {l m : List PV} {vs us : List Value}, RPs w Pub l vs → RPs w Pub m us → RPs w Pub (l ++ m) (vs ++ us)
  | [], m, vs, us, h, k => by unfold RPs at h; subst h; simpa using k
  | p :: ps, m, _, us, h, k => by
    unfold RPs at h
    obtain ⟨u, vs', rfl, h1, h2⟩ := h
    show RPs w Pub (p :: (ps ++ m)) (u :: (vs' ++ us))
    unfold RPs
    exact ⟨u, _, rfl, h1, RPs_append h2 k⟩
theorem RPs_drop : ∀ {l : List PV} {vs : List Value} (k : Nat), RPs w Pub l vs → RPs w Pub (l.drop k) (vs.drop k)
  | l, vs, 0, h => by simpa using h
  | [], _, k + 1, h => by unfold RPs at h; subst h; simp [RPs]
  | p :: ps, _, k + 1, h => by
    unfold RPs at h
    obtain ⟨u, vs', rfl, h1, h2⟩ := h
    simpa using RPs_drop k h2
theorem RPs_take : ∀ {l : List PV} {vs : List Value} (k : Nat), RPs w Pub l vs → RPs w Pub (l.take k) (vs.take k)
  | l, vs, 0, h => by simp [RPs]
  | [], _, k + 1, h => by unfold RPs at h; subst h; simp [RPs]
  | p :: ps, _, k + 1, h => by
    unfold RPs at h
    obtain ⟨u, vs', rfl, h1, h2⟩ := h
    simp only [List.take_succ_cons]
    unfold RPs
    exact ⟨u, _, rfl, h1, RPs_take k h2⟩
theorem RPs_set : ∀ {l : List PV} {vs : List Value} (i : Nat) {x : PV} {u : Value}, RPs w Pub l vs → RP w Pub x u → RPs w Pub (l.set i x) (vs.set i u)
  | [], _, _, _, _, h, _ => by unfold RPs at h; subst h; simp [RPs]
  | p :: ps, _, 0, x, u, h, k => by
    unfold RPs at h
    obtain ⟨u', vs', rfl, h1, h2⟩ := h
    simp only [List.set_cons_zero]
    unfold RPs
    exact ⟨u, _, rfl, k, h2⟩
  | p :: ps, _, i + 1, x, u, h, k => by
    unfold RPs at h
    obtain ⟨u', vs', rfl, h1, h2⟩ := h
    simp only [List.set_cons_succ]
    unfold RPs
    exact ⟨u', _, rfl, h1, RPs_set i h2 k⟩
theorem RPc_get : ∀ {l : List PV} {b o i : Nat} {x : PV}, RPc w Pub l b o → l[i]? = some x → ∃ u, w.cell? ⟨b, o + i, none⟩ = some u ∧ Pub b (o + i) ∧ u.oneCell' = true ∧ RP w Pub x u
  | [], _, _, _, _, _, hx => by simp at hx
  | p :: ps, b, o, 0, x, h, hx => by
    unfold RPc at h
    simp at hx; subst hx
    exact h.1
  | p :: ps, b, o, i + 1, x, h, hx => by
    unfold RPc at h
    have := RPc_get (i := i) h.2 (by simpa using hx)
    rw [show o + (i + 1) = o + 1 + i from by omega]; exact this
theorem RPc_of : ∀ {l : List PV} {b o : Nat}, (∀ i x, l[i]? = some x → ∃ u, w.cell? ⟨b, o + i, none⟩ = some u ∧ Pub b (o + i) ∧ u.oneCell' = true ∧ RP w Pub x u) → RPc w Pub l b o
  | [], _, _, _ => by unfold RPc; trivial
  | p :: ps, b, o, h => by
    unfold RPc
    refine ⟨h 0 p rfl, RPc_of fun i x hx => ?_⟩
    have := h (i + 1) x (by simpa using hx)
    rw [show o + 1 + i = o + (i + 1) from by omega]; exact this
theorem RPc_drop {l : List PV} {b o : Nat} (k : Nat) (h : RPc w Pub l b o) : RPc w Pub (l.drop k) b (o + k) :=
  RPc_of fun i x hx => by
    rw [List.getElem?_drop] at hx
    have := RPc_get h hx
    rw [show o + k + i = o + (k + i) from by omega]; exact this
theorem RPc_take {l : List PV} {b o : Nat} (k : Nat) (h : RPc w Pub l b o) : RPc w Pub (l.take k) b o :=
  RPc_of fun i x hx => by
    by_cases hi : i < k
    · rw [List.getElem?_take_of_lt hi] at hx; exact RPc_get h hx
    · rw [List.getElem?_take, if_neg hi] at hx; cases hx
/-- The values that lie in a shared row. -/
theorem RPc_vals : ∀ {l : List PV} {b o : Nat}, RPc w Pub l b o → ∃ vs : List Value, RPs w Pub l vs ∧ (∀ u ∈ vs, u.oneCell' = true) ∧ ∀ j u, vs[j]? = some u → w.cell? ⟨b, o + j, none⟩ = some u
  | [], _, _, _ => ⟨[], by unfold RPs; rfl, by simp, by simp⟩
  | p :: ps, b, o, h => by
    unfold RPc at h
    obtain ⟨⟨u, hc, _, h1, hr⟩, ht⟩ := h
    obtain ⟨vs, h2, h3, h4⟩ := RPc_vals ht
    refine ⟨u :: vs, by unfold RPs; exact ⟨u, vs, rfl, hr, h2⟩, ?_, ?_⟩
    · intro x hx
      rcases List.mem_cons.1 hx with rfl | hx
      · exact h1
      · exact h3 x hx
    · intro j x hx
      cases j with
      | zero => simp at hx; subst hx; exact hc
      | succ j => rw [show o + (j + 1) = o + 1 + j from by omega]; exact h4 j x (by simpa using hx)
variable {φ : Ghost}
theorem RAs_length : ∀ {l : List AV} {vs : List Value}, RAs w Pub φ l vs → vs.length = l.length
  | [], _, h => by unfold RAs at h; subst h; rfl
  | p :: ps, _, h => by
    unfold RAs at h
    obtain ⟨u, us, rfl, _, h⟩ := h
    simp [RAs_length h]
theorem RAs_get : ∀ {l : List AV} {vs : List Value} {i : Nat} {x : AV}, RAs w Pub φ l vs → l[i]? = some x → ∃ u, vs[i]? = some u ∧ RA w Pub φ x u
  | [], _, i, x, _, hx => by simp at hx
  | p :: ps, _, 0, x, h, hx => by
    unfold RAs at h
    obtain ⟨u, us, rfl, h1, _⟩ := h
    simp at hx; subst hx
    exact ⟨u, rfl, h1⟩
  | p :: ps, _, i + 1, x, h, hx => by
    unfold RAs at h
    obtain ⟨u, us, rfl, _, h2⟩ := h
    simp at hx
    obtain ⟨u', h3, h4⟩ := RAs_get h2 hx
    exact ⟨u', by simpa using h3, h4⟩
theorem RAs_append : ∀ {l m : List AV} {vs us : List Value}, RAs w Pub φ l vs → RAs w Pub φ m us → RAs w Pub φ (l ++ m) (vs ++ us)
  | [], m, vs, us, h, k => by unfold RAs at h; subst h; simpa using k
  | p :: ps, m, _, us, h, k => by
    unfold RAs at h
    obtain ⟨u, vs', rfl, h1, h2⟩ := h
    show RAs w Pub φ (p :: (ps ++ m)) (u :: (vs' ++ us))
    unfold RAs
    exact ⟨u, _, rfl, h1, RAs_append h2 k⟩
theorem RAs_drop : ∀ {l : List AV} {vs : List Value} (k : Nat), RAs w Pub φ l vs → RAs w Pub φ (l.drop k) (vs.drop k)
  | l, vs, 0, h => by simpa using h
  | [], _, k + 1, h => by unfold RAs at h; subst h; simp [RAs]
  | p :: ps, _, k + 1, h => by
    unfold RAs at h
    obtain ⟨u, vs', rfl, h1, h2⟩ := h
    simpa using RAs_drop k h2
theorem RAs_take : ∀ {l : List AV} {vs : List Value} (k : Nat), RAs w Pub φ l vs → RAs w Pub φ (l.take k) (vs.take k)
  | l, vs, 0, h => by simp [RAs]
  | [], _, k + 1, h => by unfold RAs at h; subst h; simp [RAs]
  | p :: ps, _, k + 1, h => by
    unfold RAs at h
    obtain ⟨u, vs', rfl, h1, h2⟩ := h
    simp only [List.take_succ_cons]
    unfold RAs
    exact ⟨u, _, rfl, h1, RAs_take k h2⟩
theorem RAs_set : ∀ {l : List AV} {vs : List Value} (i : Nat) {x : AV} {u : Value}, RAs w Pub φ l vs → RA w Pub φ x u → RAs w Pub φ (l.set i x) (vs.set i u)
  | [], _, _, _, _, h, _ => by unfold RAs at h; subst h; simp [RAs]
  | p :: ps, _, 0, x, u, h, k => by
    unfold RAs at h
    obtain ⟨u', vs', rfl, h1, h2⟩ := h
    simp only [List.set_cons_zero]
    unfold RAs
    exact ⟨u, _, rfl, k, h2⟩
  | p :: ps, _, i + 1, x, u, h, k => by
    unfold RAs at h
    obtain ⟨u', vs', rfl, h1, h2⟩ := h
    simp only [List.set_cons_succ]
    unfold RAs
    exact ⟨u', _, rfl, h1, RAs_set i h2 k⟩
/-- Without parts of the call's own. -/
def AV.toPs : List AV → Option (List PV)
  | [] => some []
  | .p x :: r => (toPs r).map (x :: ·)
  | _ => none
def AV.toP : AV → Option PV
  | .p x => some x
  | .agg l => (toPs l).map .agg
  | .tup l => (toPs l).map .tup
  | _ => none
theorem toPs_R : ∀ {l : List AV} {ps : List PV} {vs : List Value}, AV.toPs l = some ps → RAs w Pub φ l vs → RPs w Pub ps vs
  | [], ps, vs, h, k => by
    simp [AV.toPs] at h; subst h; unfold RAs at k; unfold RPs; exact k
  | x :: r, ps, vs, h, k => by
    unfold RAs at k
    obtain ⟨u, us, rfl, h1, h2⟩ := k
    cases x with
    | p x =>
      simp only [AV.toPs] at h
      cases hr : AV.toPs r with
      | none => rw [hr] at h; simp at h
      | some qs =>
        rw [hr] at h; simp at h; subst h
        unfold RPs
        unfold RA at h1
        exact ⟨u, us, rfl, h1, toPs_R hr h2⟩
    | _ => simp [AV.toPs] at h
theorem toP_R {x : AV} {p : PV} {u : Value} (h : x.toP = some p) (k : RA w Pub φ x u) : RP w Pub p u := by
  cases x with
  | p x => simp only [AV.toP, Option.some.injEq] at h; subst h; unfold RA at k; exact k
  | agg l =>
    simp only [AV.toP] at h
    cases hr : AV.toPs l with
    | none => rw [hr] at h; simp at h
    | some qs =>
      rw [hr] at h; simp at h; subst h
      unfold RA at k
      obtain ⟨vs, e, k⟩ := k
      unfold RP
      exact ⟨vs, e, toPs_R hr k⟩
  | tup l =>
    simp only [AV.toP] at h
    cases hr : AV.toPs l with
    | none => rw [hr] at h; simp at h
    | some qs =>
      rw [hr] at h; simp at h; subst h
      unfold RA at k
      obtain ⟨vs, e, k⟩ := k
      unfold RP
      exact ⟨vs, e, toPs_R hr k⟩
  | _ => simp [AV.toP] at h
end
end Go.Proofs.Ytnopdnclefopbaa
