/- Part 0 of the proof: its texts one behind the other. -/
import Derived.Below
import Derived.WalkKit
import Derived.RegionTactic
import Derived.OrdersHeld
import Derived.Laws.AppendOwn
import Derived.Laws.AppendOwnNone
import Derived.Deep.MidRow
import Derived.Laws.Append
import Derived.Laws.Tables
import Derived.Deep.LoopGhost
import Derived.Laws.BytesString
import Derived.Laws.MakeOwn
import Derived.IntWalk
namespace Go.Proofs.YtcebndkiagbddaaGreatDoor
open Go.RowKit
set_option linter.unusedVariables false
set_option linter.unusedSimpArgs false

/-- A value that is shared and no longer written: what it reads as. Cells of memory stand one by one. -/
inductive PV where
  | v (x : Value)
  | agg (l : List PV)
  | tup (l : List PV)
  | pp (cells : List PV) (off : Nat)
  | sl (cells : List PV) (n : Nat)
  | fn (f : FuncId) (caps : List PV)

/-- A value of a call's own frame: shared, or with parts that lie in blocks of its own (by name). -/
inductive AV where
  | p (x : PV)
  | agg (l : List AV)
  | tup (l : List AV)
  | own (r off : Nat)
  | osl (r n : Nat)
  | mref (r : Nat)
  | oss (r k n sz : Nat)
  | cnd (g : Bool) (x : AV)
  | any

/-- A block of the call's own: a variable; a row of elements (the first 'pub' cells are written no more). -/
inductive OB where
  | box (cells : List AV) (t : TypeId)
  | row (cells : List PV) (t : TypeId) (sz pub : Nat)
  | ra (cells : List AV) (t : TypeId) (sz : Nat) (ns : List Nat)
  | obj (p : Obj → Prop)
  | it (m since : Nat) (seen : Array Nat) (last : Nat)
  | dead

def OB.alive : OB → Bool
  | .dead => false
  | _ => true

abbrev Ghost := Nat → Option (Nat × Nat)

section
variable (w : World) (Pub : Nat → Nat → Prop)
mutual
def RP : PV → Value → Prop
  | .v x, u => u = x
  | .agg l, u => ∃ vs : List Value, u = .agg vs.toArray ∧ RPs l vs
  | .tup l, u => ∃ vs : List Value, u = .tuple vs.toArray ∧ RPs l vs
  | .pp cells off, u => ∃ b o, u = .pointer (some ⟨b, o + off, none⟩) ∧ RPc cells b o
  | .sl cells n, u => ∃ a c, u = .slice a n c ∧ n ≤ c ∧ c ≤ maxLen ∧ (a = none → c = 0) ∧ (n = 0 ∨ ∃ b o, a = some ⟨b, o, none⟩ ∧ RPc cells b o)
  | .fn f caps, u => ∃ vs : List Value, u = .func (.func f) #[] vs.toArray ∧ RPs caps vs
def RPs : List PV → List Value → Prop
  | [], vs => vs = []
  | p :: ps, vs => ∃ u us, vs = u :: us ∧ RP p u ∧ RPs ps us
def RPc : List PV → Nat → Nat → Prop
  | [], _, _ => True
  | p :: ps, b, o => (∃ u, w.cell? ⟨b, o, none⟩ = some u ∧ Pub b o ∧ u.oneCell' = true ∧ RP p u) ∧ RPc ps b (o + 1)
end
variable (φ : Ghost)
mutual
def RA : AV → Value → Prop
  | .p x, u => RP w Pub x u
  | .agg l, u => ∃ vs : List Value, u = .agg vs.toArray ∧ RAs l vs
  | .tup l, u => ∃ vs : List Value, u = .tuple vs.toArray ∧ RAs l vs
  | .own r off, u => ∃ b c, φ r = some (b, c) ∧ u = .pointer (some ⟨b, off, none⟩)
  | .osl r n, u => (∃ b c, φ r = some (b, c) ∧ u = .slice (some ⟨b, 0, none⟩) n c ∧ n ≤ c) ∨ (φ r = none ∧ n = 0 ∧ u = .slice none 0 0)
  | .mref r, u => ∃ b, φ r = some (b, 1) ∧ u = .map (some b)
  | .oss r k n sz, u => (∃ b c o c', φ r = some (b, c) ∧ u = .slice (some ⟨b, o, none⟩) n c' ∧ (n ≠ 0 → o = k * sz) ∧ k + n ≤ c ∧ n ≤ c') ∨ (φ r = none ∧ k = 0 ∧ n = 0 ∧ u = .slice none 0 0)
  | .cnd g x, u => (g = true → RA x u) ∧ (g = false → u = undef)
  | .any, _ => True
def RAs : List AV → List Value → Prop
  | [], vs => vs = []
  | p :: ps, vs => ∃ u us, vs = u :: us ∧ RA p u ∧ RAs ps us
end
/-- No cell of the block is frozen (the mark of bytes out of a string lies behind its end; only rows of bytes bear one). -/
def FrOk (t : TypeId) (n : Nat) (fr : Nat × Nat) : Prop := fr = (0, 0) ∨ (n ≤ fr.1 ∧ t = 5)
/-- Names that are told by their places in a list. -/
def loc (ns : List Nat) : Ghost := fun j => match ns[j]? with
  | some q => φ q
  | none => none
/-- What holds of a block of the call's own. -/
def Hp (r : Nat) : OB → Prop
  | .dead => True
  | .ra cells t sz ns => (φ r = none ∧ cells = []) ∨ ∃ b c cur fr, φ r = some (b, c) ∧ (w.heap[b]? = some (.cells cur t fr) ∧ FrOk t cur.size fr) ∧ c ≤ maxLen ∧ cur.size = c * sz ∧ cells.length ≤ cur.size ∧
      RAs w Pub (loc φ ns) cells (cur.toList.take cells.length) ∧ (∀ u ∈ cur.toList.take cells.length, u.oneCell' = true) ∧ ∀ i, ¬ Pub b i
  | .obj p => ∃ b o, φ r = some (b, 1) ∧ w.heap[b]? = some o ∧ p o ∧ ∀ i, ¬ Pub b i
  | .it m since seen last => ∃ b bm, φ r = some (b, 1) ∧ φ m = some (bm, 1) ∧ w.heap[b]? = some (.mapIter (some bm) since seen last) ∧ ∀ i, ¬ Pub b i
  | .box cells t => ∃ b cur, φ r = some (b, 1) ∧ w.heap[b]? = some (.cells cur t (0, 0)) ∧ RAs w Pub φ cells cur.toList ∧ (∀ u ∈ cur.toList, u.oneCell' = true) ∧ ∀ i, ¬ Pub b i
  | .row cells t sz pub => (φ r = none ∧ cells = []) ∨ ∃ b c cur fr, φ r = some (b, c) ∧ (w.heap[b]? = some (.cells cur t fr) ∧ FrOk t cur.size fr) ∧ c ≤ maxLen ∧ cur.size = c * sz ∧ cells.length ≤ cur.size ∧
      RPs w Pub cells (cur.toList.take cells.length) ∧ (∀ u ∈ cur.toList.take cells.length, u.oneCell' = true) ∧ ∀ i, Pub b i → i < pub ∧ i < cells.length
end

def look {α : Type} (d : α) : List (Nat × α) → Nat → α
  | [], _ => d
  | (k, x) :: r, s => bif Nat.beq k s then x else look d r s
theorem look_cons {α : Type} (d : α) (k : Nat) (x : α) (r : List (Nat × α)) (s : Nat) : look d ((k, x) :: r) s = if k = s then x else look d r s := by
  by_cases h : k = s
  · subst h; simp [look]
  · have : Nat.beq k s = false := by
      cases hb : Nat.beq k s
      · rfl
      · exact absurd (Nat.eq_of_beq_eq_true hb) h
    rw [if_neg h]; simp only [look, this]; rfl

structure AS where
  slots : List (Nat × AV)
  heap : List (Nat × OB)
def AS.put (st : AS) (d : Nat) (x : AV) : AS := ⟨(d, x) :: st.slots, st.heap⟩
def AS.set (st : AS) (r : Nat) (x : OB) : AS := ⟨st.slots, (r, x) :: st.heap⟩
def AS.ob (st : AS) (r : Nat) : OB := look .dead st.heap r
def AS.ev (st : AS) : Operand → AV
  | .tmp t => look .any st.slots t
  | .const c => .p (.v c)
  | .func f => .p (.v (.func (.func f) #[] #[]))
  | .global _ => .any

/-- The package-level tables that the seat lists: their blocks, and what their cells hold. -/
def ambTab : List (Nat × List Value) := []
def Amb (w : World) (Pub : Nat → Nat → Prop) : Prop := ∀ t ∈ ambTab, (∀ i, Pub t.1 i) ∧ ∃ ty fz, w.heap[t.1]? = some (.cells t.2.toArray ty fz)
theorem Amb.nil {w : World} {Pub : Nat → Nat → Prop} (h : ambTab = []) : Amb w Pub := fun t ht => by rw [h] at ht; cases ht
/-- What is of the call's own is not shared whole. -/
theorem own_np {w : World} {Pub : Nat → Nat → Prop} {φ : Ghost} {r b c : Nat} : ∀ {o : OB}, Hp w Pub φ r o → o.alive = true → φ r = some (b, c) → (∀ i, Pub b i) → False
  | .dead, _, h, _, _ => by cases h
  | .ra cs t sz ns, h, _, e, k => by
    rcases h with ⟨e', _⟩ | ⟨b', c', cur, fr, e', _, _, _, _, _, _, h⟩
    · rw [e] at e'; cases e'
    · rw [e] at e'; cases e'
      exact h 0 (k 0)
  | .obj p, h, _, e, k => by
    obtain ⟨b', o, e', _, _, h⟩ := h
    rw [e] at e'; cases e'; exact h 0 (k 0)
  | .it m a s l, h, _, e, k => by
    obtain ⟨b', bm, e', _, _, h⟩ := h
    rw [e] at e'; cases e'; exact h 0 (k 0)
  | .box cs t, h, _, e, k => by
    obtain ⟨b', cur, e', _, _, _, h⟩ := h
    rw [e] at e'; cases e'; exact h 0 (k 0)
  | .row cs t sz pub, h, _, e, k => by
    rcases h with ⟨e', _⟩ | ⟨b', c', cur, fr, e', _, _, _, _, _, _, h⟩
    · rw [e] at e'; cases e'
    · rw [e] at e'; cases e'
      exact absurd (h pub (k pub)).1 (Nat.lt_irrefl _)
/-- Where a call began: its world, the blocks that it was given to write, what was shared, and where its own blocks lie that came in. -/
structure Env where
  w0 : World
  A : Nat → Prop
  Pub0 : Nat → Nat → Prop
  φ0 : Ghost
  amb : Amb w0 Pub0
  ambA : ∀ t ∈ ambTab, ¬ A t.1

structure Inv (E : Env) (kp : List Nat) (φ : Ghost) (Pub : Nat → Nat → Prop) (h : List (Nat × OB)) (w : World) : Prop where
  os : w.os = E.w0.os
  tape : w.tape = E.w0.tape
  output : w.output = E.w0.output
  size : E.w0.heap.size ≤ w.heap.size
  block : ∀ b, b < E.w0.heap.size → ¬ E.A b → w.heap[b]? = E.w0.heap[b]?
  own : ∀ r, Hp w Pub φ r (look .dead h r)
  mine : ∀ r b c, (look .dead h r).alive = true → φ r = some (b, c) → E.w0.heap.size ≤ b ∨ E.A b
  inj : ∀ r r' b c c', (look .dead h r).alive = true → (look .dead h r').alive = true → φ r = some (b, c) → φ r' = some (b, c') → r = r'
  pub0 : ∀ b i, E.Pub0 b i → Pub b i
  pubs : ∀ b i, Pub b i → E.Pub0 b i ∨ E.w0.heap.size ≤ b ∨ E.A b
  publ : ∀ b i, Pub b i → b < w.heap.size
  same : ∀ b i, E.Pub0 b i → w.cell? ⟨b, i, none⟩ = E.w0.cell? ⟨b, i, none⟩
  kept : ∀ r, r ∈ kp → φ r = E.φ0 r

/-- The listed tables hold what they held. -/
theorem Inv.amb {E : Env} {kp : List Nat} {φ : Ghost} {Pub : Nat → Nat → Prop} {h : List (Nat × OB)} {w : World} (I : Inv E kp φ Pub h w) : Amb w Pub := fun t ht => by
  obtain ⟨a, ty, fz, b⟩ := E.amb t ht
  exact ⟨fun i => I.pub0 _ _ (a i), ty, fz, (I.block _ (Array.getElem?_eq_some_iff.1 b).1 (E.ambA t ht)).trans b⟩

def Sat (E : Env) (kp : List Nat) (n : Nat) (st : AS) (a : Act) (w : World) : Prop :=
  ∃ φ Pub, Inv E kp φ Pub st.heap w ∧ a.defers = [] ∧ a.tmps.size = n ∧ ∀ s, RA w Pub φ (look .any st.slots s) (a.tmps.getD s undef)

/-! ### What is shared stays -/
/-- What was shared is shared, and reads as it did. -/
def Adv (w : World) (Pub : Nat → Nat → Prop) (w' : World) (Pub' : Nat → Nat → Prop) : Prop :=
  ∀ b i, Pub b i → Pub' b i ∧ w'.cell? ⟨b, i, none⟩ = w.cell? ⟨b, i, none⟩
theorem Adv.refl (w : World) (Pub : Nat → Nat → Prop) : Adv w Pub w Pub := fun _ _ h => ⟨h, rfl⟩
theorem Adv.trans {w w1 w2 : World} {P0 P1 P2 : Nat → Nat → Prop} (h : Adv w P0 w1 P1) (k : Adv w1 P1 w2 P2) : Adv w P0 w2 P2 :=
  fun b i hp => ⟨(k b i (h b i hp).1).1, ((k b i (h b i hp).1).2).trans (h b i hp).2⟩

section
variable {w w' : World} {Pub Pub' : Nat → Nat → Prop} 
mutual
theorem RP_mono (H : Adv w Pub w' Pub') : ∀ (x : PV) (u : Value), RP w Pub x u → RP w' Pub' x u
  | .v _, _, h => by unfold RP at h ⊢; exact h
  | .agg l, _, h => by
    unfold RP at h ⊢
    obtain ⟨vs, e, h⟩ := h; exact ⟨vs, e, RPs_mono H l vs h⟩
  | .tup l, _, h => by
    unfold RP at h ⊢
    obtain ⟨vs, e, h⟩ := h; exact ⟨vs, e, RPs_mono H l vs h⟩
  | .pp cells off, _, h => by
    unfold RP at h ⊢
    obtain ⟨b, o, e, h⟩ := h; exact ⟨b, o, e, RPc_mono H cells b o h⟩
  | .sl cells n, _, h => by
    unfold RP at h ⊢
    obtain ⟨a, c, e, h1, h2, h2', h3⟩ := h
    refine ⟨a, c, e, h1, h2, h2', h3.imp id ?_⟩
    rintro ⟨b, o, e, h⟩
    exact ⟨b, o, e, RPc_mono H cells b o h⟩
  | .fn f caps, _, h => by
    unfold RP at h ⊢
    obtain ⟨vs, e, h⟩ := h; exact ⟨vs, e, RPs_mono H caps vs h⟩
theorem RPs_mono (H : Adv w Pub w' Pub') : ∀ (l : List PV) (vs : List Value), RPs w Pub l vs → RPs w' Pub' l vs
  | [], _, h => by unfold RPs at h ⊢; exact h
  | p :: ps, _, h => by
    unfold RPs at h ⊢
    obtain ⟨u, us, e, h1, h2⟩ := h
    exact ⟨u, us, e, RP_mono H p u h1, RPs_mono H ps us h2⟩
theorem RPc_mono (H : Adv w Pub w' Pub') : ∀ (l : List PV) (b o : Nat), RPc w Pub l b o → RPc w' Pub' l b o
  | [], _, _, h => by unfold RPc; trivial
  | p :: ps, b, o, h => by
    unfold RPc at h ⊢
    obtain ⟨⟨u, hc, hp, h1, hr⟩, ht⟩ := h
    exact ⟨⟨u, ((H b o hp).2).trans hc, (H b o hp).1, h1, RP_mono H p u hr⟩, RPc_mono H ps b (o + 1) ht⟩
end

mutual
def AV.has (r : Nat) : AV → Bool
  | .p _ => false
  | .agg l => hasL r l
  | .tup l => hasL r l
  | .own q _ => Nat.beq q r
  | .osl q _ => Nat.beq q r
  | .mref q => Nat.beq q r
  | .oss q _ _ _ => Nat.beq q r
  | .cnd _ x => AV.has r x
  | .any => false
def hasL (r : Nat) : List AV → Bool
  | [] => false
  | x :: xs => AV.has r x || hasL r xs
end
variable {φ φ' : Ghost}
mutual
theorem RA_mono (H : Adv w Pub w' Pub') : ∀ (x : AV) (u : Value), (∀ r, AV.has r x = true → φ' r = φ r) → RA w Pub φ x u → RA w' Pub' φ' x u
  | .p x, u, _, h => by unfold RA at h ⊢; exact RP_mono H x u h
  | .agg l, _, hn, h => by
    unfold RA at h ⊢
    obtain ⟨vs, e, h⟩ := h; exact ⟨vs, e, RAs_mono H l vs (fun r hr => hn r (by unfold AV.has; exact hr)) h⟩
  | .tup l, _, hn, h => by
    unfold RA at h ⊢
    obtain ⟨vs, e, h⟩ := h; exact ⟨vs, e, RAs_mono H l vs (fun r hr => hn r (by unfold AV.has; exact hr)) h⟩
  | .own r off, _, hn, h => by
    unfold RA at h ⊢
    rw [hn r (by unfold AV.has; simp)]; exact h
  | .osl r n, _, hn, h => by
    unfold RA at h ⊢
    rw [hn r (by unfold AV.has; simp)]; exact h
  | .mref r, _, hn, h => by
    unfold RA at h ⊢
    rw [hn r (by unfold AV.has; simp)]; exact h
  | .oss r _ _ _, _, hn, h => by
    unfold RA at h ⊢
    rw [hn r (by unfold AV.has; simp)]; exact h
  | .cnd g x, u, hn, h => by
    unfold RA at h ⊢
    exact ⟨fun hg => RA_mono H x u (fun r hr => hn r (by unfold AV.has; exact hr)) (h.1 hg), h.2⟩
  | .any, _, _, _ => by unfold RA; trivial
theorem RAs_mono (H : Adv w Pub w' Pub') : ∀ (l : List AV) (vs : List Value), (∀ r, hasL r l = true → φ' r = φ r) → RAs w Pub φ l vs → RAs w' Pub' φ' l vs
  | [], _, _, h => by unfold RAs at h ⊢; exact h
  | p :: ps, _, hn, h => by
    unfold RAs at h ⊢
    obtain ⟨u, us, e, h1, h2⟩ := h
    exact ⟨u, us, e, RA_mono H p u (fun r hr => hn r (by unfold hasL; simp [hr])) h1, RAs_mono H ps us (fun r hr => hn r (by unfold hasL; simp [hr])) h2⟩
end
end

/-! ### Lists of values -/
section
variable {w : World} {Pub : Nat → Nat → Prop}
theorem RPs_length : ∀ {l : List PV} {vs : List Value}, RPs w Pub l vs → vs.length = l.length
  | [], _, h => by unfold RPs at h; subst h; rfl
  | p :: ps, _, h => by
    unfold RPs at h
    obtain ⟨u, us, rfl, _, h⟩ := h
    simp [RPs_length h]
theorem RPs_get : ∀ {l : List PV} {vs : List Value} {i : Nat} {x : PV}, RPs w Pub l vs → l[i]? = some x → ∃ u, vs[i]? = some u ∧ RP w Pub x u
  | [], _, i, x, _, hx => by simp at hx
  | p :: ps, _, 0, x, h, hx => by
    unfold RPs at h
    obtain ⟨u, us, rfl, h1, _⟩ := h
    simp at hx; subst hx
    exact ⟨u, rfl, h1⟩
  | p :: ps, _, i + 1, x, h, hx => by
    unfold RPs at h
    obtain ⟨u, us, rfl, _, h2⟩ := h
    simp at hx
    obtain ⟨u', h3, h4⟩ := RPs_get h2 hx
    exact ⟨u', by simpa using h3, h4⟩
theorem RPs_append : ∀ {l m : List PV} {vs us : List Value}, RPs w Pub l vs → RPs w Pub m us → RPs w Pub (l ++ m) (vs ++ us)
  | [], m, vs, us, h, k => by unfold RPs at h; subst h; simpa using k
  | p :: ps, m, _, us, h, k => by
    unfold RPs at h
    obtain ⟨u, vs', rfl, h1, h2⟩ := h
    show RPs w Pub (p :: (ps ++ m)) (u :: (vs' ++ us))
    unfold RPs
    exact ⟨u, _, rfl, h1, RPs_append h2 k⟩
theorem RPs_drop : ∀ {l : List PV} {vs : List Value} (k : Nat), RPs w Pub l vs → RPs w Pub (l.drop k) (vs.drop k)
  | l, vs, 0, h => by simpa using h
  | [], _, k + 1, h => by unfold RPs at h; subst h; simp [RPs]
  | p :: ps, _, k + 1, h => by
    unfold RPs at h
    obtain ⟨u, vs', rfl, h1, h2⟩ := h
    simpa using RPs_drop k h2
theorem RPs_take : ∀ {l : List PV} {vs : List Value} (k : Nat), RPs w Pub l vs → RPs w Pub (l.take k) (vs.take k)
  | l, vs, 0, h => by simp [RPs]
  | [], _, k + 1, h => by unfold RPs at h; subst h; simp [RPs]
  | p :: ps, _, k + 1, h => by
    unfold RPs at h
    obtain ⟨u, vs', rfl, h1, h2⟩ := h
    simp only [List.take_succ_cons]
    unfold RPs
    exact ⟨u, _, rfl, h1, RPs_take k h2⟩
theorem RPs_set : ∀ {l : List PV} {vs : List Value} (i : Nat) {x : PV} {u : Value}, RPs w Pub l vs → RP w Pub x u → RPs w Pub (l.set i x) (vs.set i u)
  | [], _, _, _, _, h, _ => by unfold RPs at h; subst h; simp [RPs]
  | p :: ps, _, 0, x, u, h, k => by
    unfold RPs at h
    obtain ⟨u', vs', rfl, h1, h2⟩ := h
    simp only [List.set_cons_zero]
    unfold RPs
    exact ⟨u, _, rfl, k, h2⟩
  | p :: ps, _, i + 1, x, u, h, k => by
    unfold RPs at h
    obtain ⟨u', vs', rfl, h1, h2⟩ := h
    simp only [List.set_cons_succ]
    unfold RPs
    exact ⟨u', _, rfl, h1, RPs_set i h2 k⟩
theorem RPc_get : ∀ {l : List PV} {b o i : Nat} {x : PV}, RPc w Pub l b o → l[i]? = some x → ∃ u, w.cell? ⟨b, o + i, none⟩ = some u ∧ Pub b (o + i) ∧ u.oneCell' = true ∧ RP w Pub x u
  | [], _, _, _, _, _, hx => by simp at hx
  | p :: ps, b, o, 0, x, h, hx => by
    unfold RPc at h
    simp at hx; subst hx
    exact h.1
  | p :: ps, b, o, i + 1, x, h, hx => by
    unfold RPc at h
    have := RPc_get (i := i) h.2 (by simpa using hx)
    rw [show o + (i + 1) = o + 1 + i from by omega]; exact this
theorem RPc_of : ∀ {l : List PV} {b o : Nat}, (∀ i x, l[i]? = some x → ∃ u, w.cell? ⟨b, o + i, none⟩ = some u ∧ Pub b (o + i) ∧ u.oneCell' = true ∧ RP w Pub x u) → RPc w Pub l b o
  | [], _, _, _ => by unfold RPc; trivial
  | p :: ps, b, o, h => by
    unfold RPc
    refine ⟨h 0 p rfl, RPc_of fun i x hx => ?_⟩
    have := h (i + 1) x (by simpa using hx)
    rw [show o + 1 + i = o + (i + 1) from by omega]; exact this
theorem RPc_drop {l : List PV} {b o : Nat} (k : Nat) (h : RPc w Pub l b o) : RPc w Pub (l.drop k) b (o + k) :=
  RPc_of fun i x hx => by
    rw [List.getElem?_drop] at hx
    have := RPc_get h hx
    rw [show o + k + i = o + (k + i) from by omega]; exact this
theorem RPc_take {l : List PV} {b o : Nat} (k : Nat) (h : RPc w Pub l b o) : RPc w Pub (l.take k) b o :=
  RPc_of fun i x hx => by
    by_cases hi : i < k
    · rw [List.getElem?_take_of_lt hi] at hx; exact RPc_get h hx
    · rw [List.getElem?_take, if_neg hi] at hx; cases hx
/-- The values that lie in a shared row. -/
theorem RPc_vals : ∀ {l : List PV} {b o : Nat}, RPc w Pub l b o → ∃ vs : List Value, RPs w Pub l vs ∧ (∀ u ∈ vs, u.oneCell' = true) ∧ ∀ j u, vs[j]? = some u → w.cell? ⟨b, o + j, none⟩ = some u
  | [], _, _, _ => ⟨[], by unfold RPs; rfl, by simp, by simp⟩
  | p :: ps, b, o, h => by
    unfold RPc at h
    obtain ⟨⟨u, hc, _, h1, hr⟩, ht⟩ := h
    obtain ⟨vs, h2, h3, h4⟩ := RPc_vals ht
    refine ⟨u :: vs, by unfold RPs; exact ⟨u, vs, rfl, hr, h2⟩, ?_, ?_⟩
    · intro x hx
      rcases List.mem_cons.1 hx with rfl | hx
      · exact h1
      · exact h3 x hx
    · intro j x hx
      cases j with
      | zero => simp at hx; subst hx; exact hc
      | succ j => rw [show o + (j + 1) = o + 1 + j from by omega]; exact h4 j x (by simpa using hx)
variable {φ : Ghost}
theorem RAs_length : ∀ {l : List AV} {vs : List Value}, RAs w Pub φ l vs → vs.length = l.length
  | [], _, h => by unfold RAs at h; subst h; rfl
  | p :: ps, _, h => by
    unfold RAs at h
    obtain ⟨u, us, rfl, _, h⟩ := h
    simp [RAs_length h]
theorem RAs_get : ∀ {l : List AV} {vs : List Value} {i : Nat} {x : AV}, RAs w Pub φ l vs → l[i]? = some x → ∃ u, vs[i]? = some u ∧ RA w Pub φ x u
  | [], _, i, x, _, hx => by simp at hx
  | p :: ps, _, 0, x, h, hx => by
    unfold RAs at h
    obtain ⟨u, us, rfl, h1, _⟩ := h
    simp at hx; subst hx
    exact ⟨u, rfl, h1⟩
  | p :: ps, _, i + 1, x, h, hx => by
    unfold RAs at h
    obtain ⟨u, us, rfl, _, h2⟩ := h
    simp at hx
    obtain ⟨u', h3, h4⟩ := RAs_get h2 hx
    exact ⟨u', by simpa using h3, h4⟩
theorem RAs_append : ∀ {l m : List AV} {vs us : List Value}, RAs w Pub φ l vs → RAs w Pub φ m us → RAs w Pub φ (l ++ m) (vs ++ us)
  | [], m, vs, us, h, k => by unfold RAs at h; subst h; simpa using k
  | p :: ps, m, _, us, h, k => by
    unfold RAs at h
    obtain ⟨u, vs', rfl, h1, h2⟩ := h
    show RAs w Pub φ (p :: (ps ++ m)) (u :: (vs' ++ us))
    unfold RAs
    exact ⟨u, _, rfl, h1, RAs_append h2 k⟩
theorem RAs_drop : ∀ {l : List AV} {vs : List Value} (k : Nat), RAs w Pub φ l vs → RAs w Pub φ (l.drop k) (vs.drop k)
  | l, vs, 0, h => by simpa using h
  | [], _, k + 1, h => by unfold RAs at h; subst h; simp [RAs]
  | p :: ps, _, k + 1, h => by
    unfold RAs at h
    obtain ⟨u, vs', rfl, h1, h2⟩ := h
    simpa using RAs_drop k h2
theorem RAs_take : ∀ {l : List AV} {vs : List Value} (k : Nat), RAs w Pub φ l vs → RAs w Pub φ (l.take k) (vs.take k)
  | l, vs, 0, h => by simp [RAs]
  | [], _, k + 1, h => by unfold RAs at h; subst h; simp [RAs]
  | p :: ps, _, k + 1, h => by
    unfold RAs at h
    obtain ⟨u, vs', rfl, h1, h2⟩ := h
    simp only [List.take_succ_cons]
    unfold RAs
    exact ⟨u, _, rfl, h1, RAs_take k h2⟩
theorem RAs_set : ∀ {l : List AV} {vs : List Value} (i : Nat) {x : AV} {u : Value}, RAs w Pub φ l vs → RA w Pub φ x u → RAs w Pub φ (l.set i x) (vs.set i u)
  | [], _, _, _, _, h, _ => by unfold RAs at h; subst h; simp [RAs]
  | p :: ps, _, 0, x, u, h, k => by
    unfold RAs at h
    obtain ⟨u', vs', rfl, h1, h2⟩ := h
    simp only [List.set_cons_zero]
    unfold RAs
    exact ⟨u, _, rfl, k, h2⟩
  | p :: ps, _, i + 1, x, u, h, k => by
    unfold RAs at h
    obtain ⟨u', vs', rfl, h1, h2⟩ := h
    simp only [List.set_cons_succ]
    unfold RAs
    exact ⟨u', _, rfl, h1, RAs_set i h2 k⟩
/-- Without parts of the call's own. -/
def AV.toPs : List AV → Option (List PV)
  | [] => some []
  | .p x :: r => (toPs r).map (x :: ·)
  | _ => none
theorem toPs_R : ∀ {l : List AV} {ps : List PV} {vs : List Value}, AV.toPs l = some ps → RAs w Pub φ l vs → RPs w Pub ps vs
  | [], ps, vs, h, k => by
    simp [AV.toPs] at h; subst h; unfold RAs at k; unfold RPs; exact k
  | x :: r, ps, vs, h, k => by
    unfold RAs at k
    obtain ⟨u, us, rfl, h1, h2⟩ := k
    cases x with
    | p x =>
      simp only [AV.toPs] at h
      cases hr : AV.toPs r with
      | none => rw [hr] at h; simp at h
      | some qs =>
        rw [hr] at h; simp at h; subst h
        unfold RPs
        unfold RA at h1
        exact ⟨u, us, rfl, h1, toPs_R hr h2⟩
    | _ => simp [AV.toPs] at h
end
end Go.Proofs.YtcebndkiagbddaaGreatDoor

/- The condition on the world and a call's own blocks (Inv) is kept: by a new block, by a store, by an append, by sharing a block. It names no function of the program. -/
namespace Go.Proofs.YtcebndkiagbddaaGreatDoor
open Go.RowKit
set_option linter.unusedVariables false
set_option linter.unusedSimpArgs false

def OB.has (r : Nat) : OB → Bool
  | .box cells _ => hasL r cells
  | .it m _ _ _ => Nat.beq m r
  | .ra _ _ _ ns => ns.contains r
  | _ => false
def hHas (r : Nat) : List (Nat × OB) → Bool
  | [] => false
  | p :: h => p.2.has r || hHas r h
def sHas (r : Nat) : List (Nat × AV) → Bool
  | [] => false
  | p :: h => p.2.has r || sHas r h
theorem look_hHas {r q : Nat} : ∀ {h : List (Nat × OB)}, hHas r h = false → (look .dead h q).has r = false
  | [], _ => rfl
  | (k, x) :: h, hh => by
    simp only [hHas, Bool.or_eq_false_iff] at hh
    rw [look_cons]
    split
    · exact hh.1
    · exact look_hHas hh.2
theorem look_sHas {r q : Nat} : ∀ {h : List (Nat × AV)}, sHas r h = false → (look .any h q).has r = false
  | [], _ => rfl
  | (k, x) :: h, hh => by
    simp only [sHas, Bool.or_eq_false_iff] at hh
    rw [look_cons]
    split
    · exact hh.1
    · exact look_sHas hh.2
/-- The name r is free: no block of that name, nobody speaks of it. -/
def AS.free (st : AS) (kp : List Nat) (r : Nat) : Bool := !(look OB.dead st.heap r).alive && !hHas r st.heap && !sHas r st.slots && !kp.contains r

section
variable {E : Env} {kp : List Nat} {φ φ' : Ghost} {Pub Pub' : Nat → Nat → Prop} {h : List (Nat × OB)} {w w' : World}

theorem loc_eq {φ φ' : Ghost} {ns : List Nat} (h : ∀ q, ns.contains q = true → φ' q = φ q) : loc φ' ns = loc φ ns := by
  funext j
  unfold loc
  cases hj : ns[j]? with
  | none => rfl
  | some q => exact h q (List.contains_iff_mem.2 (List.mem_of_getElem? hj))
theorem Hp_keep (H : Adv w Pub w' Pub') {r : Nat} {ob : OB} (hb : ∀ b c, φ r = some (b, c) → w'.heap[b]? = w.heap[b]? ∧ ∀ i, Pub' b i → Pub b i) (hr : φ' r = φ r)
    (hn : ∀ q, ob.has q = true → φ' q = φ q) (k : Hp w Pub φ r ob) : Hp w' Pub' φ' r ob := by
  cases ob with
  | dead => exact trivial
  | box cells t =>
    obtain ⟨b, cur, h1, h2, h3, h4, h5⟩ := k
    obtain ⟨hb1, hb2⟩ := hb b 1 h1
    exact ⟨b, cur, by rw [hr]; exact h1, by rw [hb1]; exact h2, RAs_mono H cells _ (fun q hq => hn q hq) h3, h4, fun i hi => h5 i (hb2 i hi)⟩
  | ra cells t sz ns =>
    have hl : loc φ' ns = loc φ ns := loc_eq hn
    rcases k with ⟨k1, k2⟩ | ⟨b, c, cur, fr, h1, ⟨h2, h2'⟩, h3, h4, h5, h6, h7, h8⟩
    · exact .inl ⟨by rw [hr]; exact k1, k2⟩
    · obtain ⟨hb1, hb2⟩ := hb b c h1
      exact .inr ⟨b, c, cur, fr, by rw [hr]; exact h1, ⟨by rw [hb1]; exact h2, h2'⟩, h3, h4, h5, by rw [hl]; exact RAs_mono H _ _ (fun _ _ => rfl) h6, h7, fun i hi => h8 i (hb2 i hi)⟩
  | obj p =>
    obtain ⟨b, o, h1, h2, h3, h4⟩ := k
    obtain ⟨hb1, hb2⟩ := hb b 1 h1
    exact ⟨b, o, by rw [hr]; exact h1, by rw [hb1]; exact h2, h3, fun i hi => h4 i (hb2 i hi)⟩
  | it m since seen last =>
    obtain ⟨b, bm, h1, h0, h2, h4⟩ := k
    obtain ⟨hb1, hb2⟩ := hb b 1 h1
    exact ⟨b, bm, by rw [hr]; exact h1, by rw [hn m (by simp [OB.has])]; exact h0, by rw [hb1]; exact h2, fun i hi => h4 i (hb2 i hi)⟩
  | row cells t sz pub =>
    rcases k with ⟨k1, k2⟩ | ⟨b, c, cur, fr, h1, ⟨h2, h2'⟩, h3, h4, h5, h6, h7, h8⟩
    · exact .inl ⟨by rw [hr]; exact k1, k2⟩
    · obtain ⟨hb1, hb2⟩ := hb b c h1
      exact .inr ⟨b, c, cur, fr, by rw [hr]; exact h1, ⟨by rw [hb1]; exact h2, h2'⟩, h3, h4, h5, RPs_mono H _ _ h6, h7, fun i hi => h8 i (hb2 i hi)⟩

theorem Inv.lt (I : Inv E kp φ Pub h w) {r b c : Nat} (ha : (look .dead h r).alive = true) (hr : φ r = some (b, c)) : b < w.heap.size := by
  have := I.own r
  cases hl : look .dead h r with
  | dead => rw [hl] at ha; cases ha
  | box cells t =>
    rw [hl] at this
    obtain ⟨b', cur, h1, h2, _⟩ := this
    rw [hr] at h1; cases h1
    exact (Array.getElem?_eq_some_iff.1 h2).1
  | ra cells t sz ns =>
    rw [hl] at this
    rcases this with ⟨k1, k2⟩ | ⟨b', c', cur, fr, h1, ⟨h2, _⟩, _⟩
    · rw [hr] at k1; cases k1
    · rw [hr] at h1; cases h1
      exact (Array.getElem?_eq_some_iff.1 h2).1
  | obj p =>
    rw [hl] at this
    obtain ⟨b', o, h1, h2, _⟩ := this
    rw [hr] at h1; cases h1
    exact (Array.getElem?_eq_some_iff.1 h2).1
  | it m since seen last =>
    rw [hl] at this
    obtain ⟨b', bm, h1, _, h2, _⟩ := this
    rw [hr] at h1; cases h1
    exact (Array.getElem?_eq_some_iff.1 h2).1
  | row cells t sz pub =>
    rw [hl] at this
    rcases this with ⟨k1, k2⟩ | ⟨b', c', cur, fr, h1, ⟨h2, _⟩, _⟩
    · rw [hr] at k1; cases k1
    · rw [hr] at h1; cases h1
      exact (Array.getElem?_eq_some_iff.1 h2).1

theorem free_split {st : AS} {r : Nat} (hf : st.free kp r = true) : (look OB.dead st.heap r).alive = false ∧ hHas r st.heap = false ∧ sHas r st.slots = false ∧ r ∉ kp := by
  unfold AS.free at hf
  simp only [Bool.and_eq_true, Bool.not_eq_true'] at hf
  obtain ⟨⟨⟨h1, h2⟩, h3⟩, h4⟩ := hf
  exact ⟨h1, h2, h3, fun hm => by rw [List.contains_iff_mem.2 hm] at h4; cases h4⟩

theorem adv_alloc (I : Inv E kp φ Pub h w) (o : Obj) : Adv w Pub (w.alloc o) Pub := fun b i hp =>
  ⟨hp, World.cell?_alloc_lt w o ⟨b, i, none⟩ (I.publ b i hp)⟩


theorem Inv.next (I : Inv E kp φ Pub h w) {h' : List (Nat × OB)} (hos : w'.os = w.os) (htape : w'.tape = w.tape) (hout : w'.output = w.output) (hsz : w.heap.size ≤ w'.heap.size)
    (hblk : ∀ b, b < E.w0.heap.size → ¬ E.A b → w'.heap[b]? = w.heap[b]?) (H : Adv w Pub w' Pub')
    (hpubs : ∀ b i, Pub' b i → Pub b i ∨ E.w0.heap.size ≤ b ∨ E.A b) (hpl : ∀ b i, Pub' b i → b < w'.heap.size)
    (own : ∀ r, (look OB.dead h' r).alive = true → Hp w' Pub' φ' r (look .dead h' r))
    (mine : ∀ r b c, (look OB.dead h' r).alive = true → φ' r = some (b, c) → E.w0.heap.size ≤ b ∨ E.A b)
    (inj : ∀ r r' b c c', (look OB.dead h' r).alive = true → (look OB.dead h' r').alive = true → φ' r = some (b, c) → φ' r' = some (b, c') → r = r')
    (kept : ∀ r, r ∈ kp → φ' r = φ r) : Inv E kp φ' Pub' h' w' := by
  refine ⟨hos.trans I.os, htape.trans I.tape, hout.trans I.output, Nat.le_trans I.size hsz, fun b hb hA => (hblk b hb hA).trans (I.block b hb hA), fun r => ?_, mine, inj,
    fun b i hp => (H b i (I.pub0 b i hp)).1, fun b i hp => ?_, hpl, fun b i hp => ((H b i (I.pub0 b i hp)).2).trans (I.same b i hp), fun r hr => (kept r hr).trans (I.kept r hr)⟩
  · cases hl : look OB.dead h' r with
    | dead => exact trivial
    | box cells t => have := own r (by rw [hl]; rfl); rw [hl] at this; exact this
    | row cells t sz pub => have := own r (by rw [hl]; rfl); rw [hl] at this; exact this
    | obj p => have := own r (by rw [hl]; rfl); rw [hl] at this; exact this
    | ra cells t sz ns => have := own r (by rw [hl]; rfl); rw [hl] at this; exact this
    | it m since seen last => have := own r (by rw [hl]; rfl); rw [hl] at this; exact this
  · rcases hpubs b i hp with h1 | h1
    · exact I.pubs b i h1
    · exact .inr h1

/-- A new block. -/
theorem Inv.alloc (I : Inv E kp φ Pub h w) {r : Nat} (hl : (look OB.dead h r).alive = false) (hh : hHas r h = false) (hk : r ∉ kp) (o : Obj) (c : Nat) {ob : OB}
    (hob : Hp (w.alloc o) Pub (fun q => if q = r then some (w.heap.size, c) else φ q) r ob) :
    Inv E kp (fun q => if q = r then some (w.heap.size, c) else φ q) Pub ((r, ob) :: h) (w.alloc o) := by
  have H := adv_alloc I o
  have hsz : (w.alloc o).heap.size = w.heap.size + 1 := by simp
  have hs := I.size
  refine I.next rfl rfl rfl (by omega) (fun b hb hA => Below.heap_alloc _ _ _ (by omega)) H (fun b i hp => .inl hp) (fun b i hp => by have := I.publ b i hp; omega) (fun q ha => ?_) (fun q b c' ha hq => ?_) (fun q q' b c1 c2 ha ha' hq hq' => ?_) (fun q hq => ?_)
  · rw [look_cons] at ha ⊢
    split
    · next e => subst e; exact hob
    · next e =>
      rw [if_neg e] at ha
      refine Hp_keep H (fun b c' hb => ⟨Below.heap_alloc _ _ _ (I.lt ha hb), fun i hi => hi⟩) (if_neg (Ne.symm e)) (fun x hx => ?_) (I.own q)
      have : x ≠ r := fun e2 => by subst e2; rw [look_hHas hh] at hx; cases hx
      exact if_neg this
  · rw [look_cons] at ha
    by_cases e : q = r
    · rw [if_pos e] at hq; cases hq; exact .inl hs
    · rw [if_neg e] at hq; rw [if_neg (Ne.symm e)] at ha; exact I.mine q b c' ha hq
  · rw [look_cons] at ha ha'
    by_cases e : q = r <;> by_cases e' : q' = r
    · rw [e, e']
    · rw [if_pos e] at hq; rw [if_neg e'] at hq'; rw [if_neg (Ne.symm e')] at ha'
      cases hq; have := I.lt ha' hq'; omega
    · rw [if_pos e'] at hq'; rw [if_neg e] at hq; rw [if_neg (Ne.symm e)] at ha
      cases hq'; have := I.lt ha hq; omega
    · rw [if_neg e] at hq; rw [if_neg e'] at hq'; rw [if_neg (Ne.symm e)] at ha; rw [if_neg (Ne.symm e')] at ha'
      exact I.inj q q' b c1 c2 ha ha' hq hq'
  · exact if_neg (fun e => by subst e; exact hk hq)

/-- Behind a new block whatever was said of values without that name holds. -/
theorem RA_alloc (I : Inv E kp φ Pub h w) {r : Nat} {x : AV} {u : Value} {o : Obj} (hx : x.has r = false) (c : Nat) (k : RA w Pub φ x u) : RA (w.alloc o) Pub (fun q => if q = r then some (w.heap.size, c) else φ q) x u :=
  RA_mono (adv_alloc I o) x u (fun q hq => if_neg (fun e => by subst e; rw [hx] at hq; cases hq)) k
theorem RAs_alloc (I : Inv E kp φ Pub h w) {r : Nat} {l : List AV} {us : List Value} {o : Obj} (hx : hasL r l = false) (c : Nat) (k : RAs w Pub φ l us) : RAs (w.alloc o) Pub (fun q => if q = r then some (w.heap.size, c) else φ q) l us :=
  RAs_mono (adv_alloc I o) l us (fun q hq => if_neg (fun e => by subst e; rw [hx] at hq; cases hq)) k

/-! ### Stores -/
theorem heap_setCells_other (b : Nat) : ∀ (xs : List Value) (o : Nat) (w : World) (k : Nat), k ≠ b → (w.setCells b o xs).heap[k]? = w.heap[k]?
  | [], o, w, k, _ => rfl
  | x :: xs, o, w, k, hk => by
    rw [World.setCells, heap_setCells_other b xs (o + 1) _ k hk]
    exact heap_setCell_other w ⟨b, o, none⟩ k x hk
theorem heap_setCell_fr {w : World} {b i : Nat} {cs : Array Value} {t : TypeId} {fr : Nat × Nat} (hb : w.heap[b]? = some (.cells cs t fr)) (v : Value) :
    (w.setCell ⟨b, i, none⟩ v).heap[b]? = some (.cells (cs.setIfInBounds i v) t fr) := by
  simp [World.setCell, Array.getElem?_modify, hb]
theorem heap_setCells_same (b : Nat) : ∀ (xs : List Value) (o : Nat) (w : World) (cur : Array Value) (t : TypeId) (fr : Nat × Nat), w.heap[b]? = some (.cells cur t fr) →
    ∃ cur' : Array Value, (w.setCells b o xs).heap[b]? = some (.cells cur' t fr) ∧ cur'.size = cur.size ∧ cur'.toList = (xs.zipIdx o).foldl (fun l p => l.set p.2 p.1) cur.toList
  | [], o, w, cur, t, fr, hw => ⟨cur, hw, rfl, rfl⟩
  | x :: xs, o, w, cur, t, fr, hw => by
    obtain ⟨cur', h1, h2, h3⟩ := heap_setCells_same b xs (o + 1) (w.setCell ⟨b, o, none⟩ x) (cur.setIfInBounds o x) t fr (heap_setCell_fr hw x)
    exact ⟨cur', h1, by simpa using h2, by rw [h3]; simp⟩
theorem size_setCells (b : Nat) : ∀ (xs : List Value) (o : Nat) (w : World), (w.setCells b o xs).heap.size = w.heap.size
  | [], o, w => rfl
  | x :: xs, o, w => by rw [World.setCells, size_setCells b xs]; simp [World.setCell]
theorem streams_setCells (b : Nat) : ∀ (xs : List Value) (o : Nat) (w : World), (w.setCells b o xs).os = w.os ∧ (w.setCells b o xs).tape = w.tape ∧ (w.setCells b o xs).output = w.output
  | [], o, w => ⟨rfl, rfl, rfl⟩
  | x :: xs, o, w => by rw [World.setCells]; exact streams_setCells b xs (o + 1) _
/-- A list with some elements put into it, from o on. -/
def putL {α : Type} : List α → Nat → List α → List α
  | l, _, [] => l
  | l, o, x :: xs => putL (l.set o x) (o + 1) xs
theorem putL_foldl {α : Type} : ∀ (xs : List α) (o : Nat) (l : List α), (xs.zipIdx o).foldl (fun l p => l.set p.2 p.1) l = putL l o xs
  | [], o, l => rfl
  | x :: xs, o, l => by simp only [List.zipIdx_cons, List.foldl_cons, putL]; exact putL_foldl xs (o + 1) _
theorem putL_length {α : Type} : ∀ (xs : List α) (o : Nat) (l : List α), (putL l o xs).length = l.length
  | [], o, l => rfl
  | x :: xs, o, l => by simp [putL, putL_length xs]
theorem putL_mem {α : Type} {u : α} : ∀ (xs : List α) (o : Nat) (l : List α), u ∈ putL l o xs → u ∈ l ∨ u ∈ xs
  | [], o, l, h => .inl h
  | x :: xs, o, l, h => by
    rcases putL_mem xs (o + 1) (l.set o x) h with h | h
    · rcases List.mem_or_eq_of_mem_set h with h | h
      · exact .inl h
      · exact .inr (by rw [h]; simp)
    · exact .inr (List.mem_cons_of_mem _ h)
theorem putL_take {α : Type} : ∀ (xs : List α) (o k : Nat) (l : List α), o + xs.length ≤ k → (putL l o xs).take k = putL (l.take k) o xs
  | [], o, k, l, h => rfl
  | x :: xs, o, k, l, h => by
    simp only [List.length_cons] at h
    simp only [putL]
    rw [putL_take xs (o + 1) k _ (by omega), List.take_set]
theorem RAs_putL : ∀ {xs : List AV} {us : List Value} (o : Nat) {l : List AV} {vs : List Value}, RAs w Pub φ l vs → RAs w Pub φ xs us → RAs w Pub φ (putL l o xs) (putL vs o us)
  | [], us, o, l, vs, h1, h2 => by unfold RAs at h2; subst h2; exact h1
  | x :: xs, us, o, l, vs, h1, h2 => by
    unfold RAs at h2
    obtain ⟨u, us', rfl, h3, h4⟩ := h2
    exact RAs_putL (o + 1) (RAs_set o h1 h3) h4
theorem RPs_putL : ∀ {xs : List PV} {us : List Value} (o : Nat) {l : List PV} {vs : List Value}, RPs w Pub l vs → RPs w Pub xs us → RPs w Pub (putL l o xs) (putL vs o us)
  | [], us, o, l, vs, h1, h2 => by unfold RPs at h2; subst h2; exact h1
  | x :: xs, us, o, l, vs, h1, h2 => by
    unfold RPs at h2
    obtain ⟨u, us', rfl, h3, h4⟩ := h2
    exact RPs_putL (o + 1) (RPs_set o h1 h3) h4

theorem adv_setCells {b o : Nat} {us : List Value} (hp : ∀ i, i < us.length → ¬ Pub b (o + i)) : Adv w Pub (w.setCells b o us) Pub := fun k i hk =>
  ⟨hk, World.cell?_setCells_out b us o w ⟨k, i, none⟩ (fun h1 _ => by
    simp only at h1 ⊢
    subst h1
    rcases Nat.lt_or_ge i o with h2 | h2
    · exact .inl h2
    · rcases Nat.lt_or_ge i (o + us.length) with h3 | h3
      · exact absurd hk (by have := hp (i - o) (by omega); rwa [show o + (i - o) = i from by omega] at this)
      · exact .inr h3)⟩

/-- A store into a block of the call's own: whatever stands in it behind. -/
theorem Inv.store (I : Inv E kp φ Pub h w) {r b c o : Nat} {us : List Value} (ha : (look OB.dead h r).alive = true) (hr : φ r = some (b, c)) (hp : ∀ i, i < us.length → ¬ Pub b (o + i)) {ob : OB}
    (hal : ob.alive = true) (hob : Hp (w.setCells b o us) Pub φ r ob) : Inv E kp φ Pub ((r, ob) :: h) (w.setCells b o us) := by
  have H := adv_setCells (w := w) hp
  obtain ⟨s1, s2, s3⟩ := streams_setCells b us o w
  have hm := I.mine r b c ha hr
  refine I.next s1 s2 s3 (by rw [size_setCells]; exact Nat.le_refl _) (fun k hk hA => heap_setCells_other b us o w k (fun e => by
      subst e
      rcases hm with hm | hm
      · omega
      · exact hA hm)) H (fun _ _ hp => .inl hp) (fun k i hk => by rw [size_setCells]; exact I.publ k i hk) (fun q hq => ?_) (fun q k c' hq hk => ?_) (fun q q' k c1 c2 hq hq' hk hk' => ?_) (fun _ _ => rfl)
  · rw [look_cons] at hq ⊢
    split
    · next e => subst e; exact hob
    · next e =>
      rw [if_neg e] at hq
      refine Hp_keep H (fun k c' hk => ⟨heap_setCells_other b us o w k (fun e2 => ?_), fun i hi => hi⟩) rfl (fun _ _ => rfl) (I.own q)
      subst e2
      exact e (I.inj r q _ _ _ ha hq hr hk)
  · rw [look_cons] at hq
    by_cases e : r = q
    · subst e; exact I.mine r k c' ha hk
    · rw [if_neg e] at hq; exact I.mine q k c' hq hk
  · have hx : ∀ z, (look OB.dead ((r, ob) :: h) z).alive = true → (look OB.dead h z).alive = true := fun z hz => by
      rw [look_cons] at hz
      by_cases e : r = z
      · subst e; exact ha
      · rw [if_neg e] at hz; exact hz
    exact I.inj q q' k c1 c2 (hx q hq) (hx q' hq') hk hk'

/-- Some values into a variable's cells. -/
theorem Inv.storeBox (I : Inv E kp φ Pub h w) {r b o : Nat} {t : TypeId} {cells xs : List AV} {us : List Value} (hl : look OB.dead h r = .box cells t) (hr : φ r = some (b, 1)) (hx : RAs w Pub φ xs us) (h1 : ∀ u ∈ us, u.oneCell' = true) :
    Inv E kp φ Pub ((r, .box (putL cells o xs) t) :: h) (w.setCells b o us) ∧ Adv w Pub (w.setCells b o us) Pub := by
  have k := I.own r
  rw [hl] at k
  obtain ⟨b', cur, k1, k2, k3, k4, k5⟩ := k
  rw [hr] at k1; cases k1
  have H : Adv w Pub (w.setCells b o us) Pub := adv_setCells (fun i _ => k5 _)
  obtain ⟨cur', c1, c2, c3⟩ := heap_setCells_same b us o w cur t _ k2
  rw [putL_foldl] at c3
  refine ⟨I.store (by rw [hl]; rfl) hr (fun i _ => k5 _) rfl ⟨b, cur', hr, c1, ?_, ?_, k5⟩, H⟩
  · rw [c3]; exact RAs_mono H _ _ (fun _ _ => rfl) (RAs_putL o k3 hx)
  · intro u hu
    rw [c3] at hu
    rcases putL_mem us o cur.toList hu with hu | hu
    · exact k4 u hu
    · exact h1 u hu

/-- Some values into a row's cells, behind those that are shared. -/
theorem Inv.storeRow (I : Inv E kp φ Pub h w) {r b c o sz pub : Nat} {t : TypeId} {cells xs : List PV} {us : List Value} (hl : look OB.dead h r = .row cells t sz pub) (hr : φ r = some (b, c)) (hx : RPs w Pub xs us) (h1 : ∀ u ∈ us, u.oneCell' = true)
    (hpub : pub ≤ o) (hin : o + xs.length ≤ cells.length) :
    Inv E kp φ Pub ((r, .row (putL cells o xs) t sz pub) :: h) (w.setCells b o us) ∧ Adv w Pub (w.setCells b o us) Pub := by
  have k := I.own r
  rw [hl] at k
  rcases k with ⟨k0, _⟩ | ⟨b', c', cur, fr, k1, ⟨k2, k2'⟩, k3, k4, k5, k6, k7, k8⟩
  · rw [hr] at k0; cases k0
  rw [hr] at k1; cases k1
  have hlen := RPs_length hx
  have hnp : ∀ i, i < us.length → ¬ Pub b (o + i) := fun i _ hp => by have := (k8 _ hp).1; omega
  have H : Adv w Pub (w.setCells b o us) Pub := adv_setCells hnp
  obtain ⟨cur', c1, c2, c3⟩ := heap_setCells_same b us o w cur t _ k2
  rw [putL_foldl] at c3
  refine ⟨I.store (by rw [hl]; rfl) hr hnp rfl (.inr ⟨b, c, cur', fr, hr, ⟨c1, by rw [c2]; exact k2'⟩, k3, by rw [c2]; exact k4, by rw [putL_length, c2]; exact k5, ?_, ?_, fun i hi => by rw [putL_length]; exact k8 i hi⟩), H⟩
  · rw [c3, putL_length, putL_take _ _ _ _ (by omega)]; exact RPs_mono H _ _ (RPs_putL o k6 hx)
  · intro u hu
    rw [c3, putL_length, putL_take _ _ _ _ (by omega)] at hu
    rcases putL_mem us o _ hu with hu | hu
    · exact k7 u hu
    · exact h1 u hu
end
end Go.Proofs.YtcebndkiagbddaaGreatDoor

/- An append to a row of the call's own; a block of the call's own is shared. They name no function of the program. -/
namespace Go.Proofs.YtcebndkiagbddaaGreatDoor
open Go.RowKit
set_option linter.unusedVariables false
set_option linter.unusedSimpArgs false

section
variable {E : Env} {kp : List Nat} {φ φ' : Ghost} {Pub Pub' : Nat → Nat → Prop} {h : List (Nat × OB)} {w w' : World}

/-- The row r goes on under another name, in its block. -/
theorem Inv.inplace (I : Inv E kp φ Pub h w) {r r' b c sz pub : Nat} {t : TypeId} {cells cells' : List PV} (hl : look OB.dead h r = .row cells t sz pub) (hr : φ r = some (b, c))
    (hf : (look OB.dead h r').alive = false) (hh : hHas r' h = false) (hk : r' ∉ kp) (hos : w'.os = w.os) (htape : w'.tape = w.tape) (hout : w'.output = w.output) (hsz : w'.heap.size = w.heap.size)
    (hother : ∀ k, k ≠ b → w'.heap[k]? = w.heap[k]?) (H : Adv w Pub w' Pub) {cur' : Array Value} {fr : Nat × Nat} (hw : w'.heap[b]? = some (.cells cur' t fr)) (hfr : FrOk t cur'.size fr) (h2 : cur'.size = c * sz) (hle : cells'.length ≤ cur'.size)
    (hR : RPs w' Pub cells' (cur'.toList.take cells'.length)) (h1 : ∀ u ∈ cur'.toList.take cells'.length, u.oneCell' = true) (hlen : cells.length ≤ cells'.length) :
    Inv E kp (fun q => if q = r' then some (b, c) else φ q) Pub ((r', .row cells' t sz pub) :: (r, .dead) :: h) w' := by
  have ha : (look OB.dead h r).alive = true := by rw [hl]; rfl
  have hne : r ≠ r' := fun e => by subst e; rw [ha] at hf; cases hf
  have hm := I.mine r b c ha hr
  have k := I.own r
  rw [hl] at k
  have hpub : c ≤ maxLen ∧ ∀ i, Pub b i → i < pub ∧ i < cells.length := by
    rcases k with ⟨k0, _⟩ | ⟨b', c', cur, fr0, k1, ⟨k2, k2'⟩, k3, k4, k5, k6, k7, k8⟩
    · rw [hr] at k0; cases k0
    · rw [hr] at k1; cases k1; exact ⟨k3, k8⟩
  have hal : ∀ q, (look OB.dead ((r', OB.row cells' t sz pub) :: (r, .dead) :: h) q).alive = true → q = r' ∨ (q ≠ r' ∧ q ≠ r ∧ (look OB.dead h q).alive = true) := fun q hq => by
    rw [look_cons] at hq
    by_cases e : r' = q
    · exact .inl e.symm
    · rw [if_neg e, look_cons] at hq
      by_cases e2 : r = q
      · rw [if_pos e2] at hq; cases hq
      · rw [if_neg e2] at hq; exact .inr ⟨Ne.symm e, Ne.symm e2, hq⟩
  refine I.next hos htape hout (by omega) (fun k hk hA => hother k (fun e => by
      subst e
      rcases hm with hm | hm
      · omega
      · exact hA hm)) H (fun _ _ hp => .inl hp) (fun k i hp => by rw [hsz]; exact I.publ k i hp) (fun q hq => ?_) (fun q k c' hq hk => ?_) (fun q q' k c1 c2 hq hq' hk hk' => ?_) (fun q hq => ?_)
  · rcases hal q hq with e | ⟨e1, e2, e3⟩
    · subst e
      rw [look_cons, if_pos rfl]
      exact .inr ⟨b, c, cur', fr, if_pos rfl, ⟨hw, hfr⟩, hpub.1, h2, hle, hR, h1, fun i hi => ⟨(hpub.2 i hi).1, Nat.lt_of_lt_of_le (hpub.2 i hi).2 hlen⟩⟩
    · rw [look_cons, if_neg (Ne.symm e1), look_cons, if_neg (Ne.symm e2)]
      refine Hp_keep H (fun k c' hk => ⟨hother k (fun e => ?_), fun i hi => hi⟩) (if_neg e1) (fun x hx => ?_) (I.own q)
      · subst e; exact e2 (I.inj q r _ _ _ e3 ha hk hr)
      · have : x ≠ r' := fun e => by subst e; rw [look_hHas hh] at hx; cases hx
        exact if_neg this
  · rcases hal q hq with e | ⟨e1, e2, e3⟩
    · rw [if_pos e] at hk; cases hk; exact hm
    · rw [if_neg e1] at hk; exact I.mine q k c' e3 hk
  · rcases hal q hq with e | ⟨e1, e2, e3⟩ <;> rcases hal q' hq' with e' | ⟨e1', e2', e3'⟩
    · rw [e, e']
    · rw [if_pos e] at hk; rw [if_neg e1'] at hk'; cases hk
      exact absurd (I.inj q' r _ _ _ e3' ha hk' hr) e2'
    · rw [if_pos e'] at hk'; rw [if_neg e1] at hk; cases hk'
      exact absurd (I.inj q r _ _ _ e3 ha hk hr) e2
    · rw [if_neg e1] at hk; rw [if_neg e1'] at hk'; exact I.inj q q' k c1 c2 e3 e3' hk hk'
  · exact if_neg (fun e => by subst e; exact hk hq)

/-- A block of the call's own is let go of. -/
theorem Inv.drop (I : Inv E kp φ Pub h w) (r : Nat) : Inv E kp φ Pub ((r, .dead) :: h) w := by
  have hal : ∀ q, (look OB.dead ((r, OB.dead) :: h) q).alive = true → q ≠ r ∧ (look OB.dead h q).alive = true := fun q hq => by
    rw [look_cons] at hq
    by_cases e : r = q
    · rw [if_pos e] at hq; cases hq
    · rw [if_neg e] at hq; exact ⟨Ne.symm e, hq⟩
  exact I.next rfl rfl rfl (Nat.le_refl _) (fun _ _ _ => rfl) (Adv.refl _ _) (fun _ _ hp => .inl hp) I.publ (fun q hq => by
      rw [look_cons, if_neg (Ne.symm (hal q hq).1)]; exact I.own q) (fun q b c hq => I.mine q b c (hal q hq).2) (fun q q' b c c' hq hq' => I.inj q q' b c c' (hal q hq).2 (hal q' hq').2) (fun _ _ => rfl)

theorem Inv.drew (I : Inv E kp φ Pub h w) : Inv E kp φ Pub h w.drew :=
  I.next rfl rfl rfl (Nat.le_refl _) (fun _ _ _ => rfl) (fun _ _ hp => ⟨hp, by simp⟩) (fun _ _ hp => .inl hp) I.publ (fun q _ => Hp_keep (w := w) (w' := w.drew) (Pub := Pub) (fun _ _ hp => ⟨hp, by simp⟩) (fun _ _ _ => ⟨rfl, fun _ h => h⟩) rfl (fun _ _ => rfl) (I.own q)) I.mine I.inj (fun _ _ => rfl)
theorem adv_drew : Adv w Pub w.drew Pub := fun _ _ hp => ⟨hp, by simp⟩

/-- The nil row may be given any free name. -/
theorem Inv.nilRow (I : Inv E kp φ Pub h w) {r : Nat} (hf : (look OB.dead h r).alive = false) (hh : hHas r h = false) (hk : r ∉ kp) (t : TypeId) (sz pub : Nat) :
    Inv E kp (fun q => if q = r then none else φ q) Pub ((r, .row [] t sz pub) :: h) w := by
  have hal : ∀ q, (look OB.dead ((r, OB.row [] t sz pub) :: h) q).alive = true → q = r ∨ (q ≠ r ∧ (look OB.dead h q).alive = true) := fun q hq => by
    rw [look_cons] at hq
    by_cases e : r = q
    · exact .inl e.symm
    · rw [if_neg e] at hq; exact .inr ⟨Ne.symm e, hq⟩
  refine I.next rfl rfl rfl (Nat.le_refl _) (fun _ _ _ => rfl) (Adv.refl _ _) (fun _ _ hp => .inl hp) I.publ (fun q hq => ?_) (fun q b c hq hb => ?_) (fun q q' b c c' hq hq' hb hb' => ?_) (fun q hq => if_neg (fun e => by subst e; exact hk hq))
  · rcases hal q hq with e | ⟨e, hq⟩
    · subst e; rw [look_cons, if_pos rfl]; exact .inl ⟨if_pos rfl, rfl⟩
    · rw [look_cons, if_neg (Ne.symm e)]
      refine Hp_keep (Adv.refl _ _) (fun _ _ _ => ⟨rfl, fun _ h => h⟩) (if_neg e) (fun x hx => ?_) (I.own q)
      have : x ≠ r := fun e => by subst e; rw [look_hHas hh] at hx; cases hx
      exact if_neg this
  · rcases hal q hq with e | ⟨e, hq⟩
    · rw [if_pos e] at hb; cases hb
    · rw [if_neg e] at hb; exact I.mine q b c hq hb
  · rcases hal q hq with e | ⟨e, hq⟩
    · rw [if_pos e] at hb; cases hb
    · rcases hal q' hq' with e' | ⟨e', hq'⟩
      · rw [if_pos e'] at hb'; cases hb'
      · rw [if_neg e] at hb; rw [if_neg e'] at hb'; exact I.inj q q' b c c' hq hq' hb hb'

theorem RA_rename {r : Nat} {x : AV} {u : Value} {g : Option (Nat × Nat)} (H : Adv w Pub w' Pub') (hx : x.has r = false) (k : RA w Pub φ x u) : RA w' Pub' (fun q => if q = r then g else φ q) x u :=
  RA_mono H x u (fun q hq => if_neg (fun e => by subst e; rw [hx] at hq; cases hq)) k

theorem putL_app {α : Type} : ∀ (vs : List α) (k : Nat) (l : List α), k + vs.length ≤ l.length → (putL l k vs).take (k + vs.length) = l.take k ++ vs
  | [], k, l, h => by simp [putL]
  | x :: xs, k, l, h => by
    simp only [List.length_cons] at h
    simp only [putL, List.length_cons]
    rw [show k + (xs.length + 1) = (k + 1) + xs.length from by omega, putL_app xs (k + 1) (l.set k x) (by rw [List.length_set]; omega)]
    rw [List.take_succ_eq_append_getElem (by rw [List.length_set]; omega), List.getElem_set_self, List.take_set, List.set_eq_of_length_le (by rw [List.length_take]; omega)]
    simp
section
variable {P : Program}
theorem run_append_of_nil (base : Nat) (t ty e : TypeId) (i : TypeInfo) (ht : P.underlying t = some (.slice e)) (hi : P.info? e = some i)
    (a : Option Addr) (n cap c : Nat) (hn : n ≤ cap) (ha : a = none → n = 0) : (Builtin.append_ #[t, t] ty #[.slice a n cap, .slice none 0 c]).run P w = .ok (.slice a n cap) w := by
  cases a with
  | none =>
    simp [Builtin.append_, run_underlying ht, sizeOf, typeInfo, hi, Builtin.lenOf, Builtin.firstCells, hn]
  | some ad => simp [Builtin.append_, run_underlying ht, sizeOf, typeInfo, hi, Builtin.lenOf, Builtin.firstCells, hn, storeCells]

/-- What is appended: nothing, out of nil; or some cells that lie in memory. -/
def Src (w : World) (sz : Nat) (a : Option Addr) (m : Nat) (vs : List Value) : Prop :=
  vs.length = m * sz ∧ (∀ u ∈ vs, u.oneCell' = true) ∧ ((a = none ∧ m = 0) ∨ ∃ ad, a = some ad ∧ ∀ j u, vs[j]? = some u → w.cell? (ad.add j) = some u)

/-- **An append to a row of the call's own.** -/
theorem Inv.append (I : Inv E kp φ Pub h w) {r r' n sz pub : Nat} {e : TypeId} {cells news : List PV} {u : Value} (hl : look OB.dead h r = .row cells e sz pub) (hu : RA w Pub φ (.osl r n) u) (hn : n * sz = cells.length)
    (hf : (look OB.dead h r').alive = false) (hh : hHas r' h = false) (hk : r' ∉ kp)
    (t ty : TypeId) (i : TypeInfo) (z : Value) (bytes : Nat) (ht : P.underlying t = some (.slice e)) (hi : P.info? e = some i) (hz : i.zero = some z) (hsize : i.size = sz) (hby : i.bytes = bytes) (hzs : z.cells.size = sz) (hsz : 0 < sz)
    (a : Option Addr) (m c : Nat) (vs : List Value) (hv : RPs w Pub news vs) (hs : Src w sz a m vs) (h63 : n + m ≤ maxLen) (hbytes : (n + m) * bytes ≤ 140737488355328) :
    ∃ v' w' g, (Builtin.append_ #[t, t] ty #[u, .slice a m c]).run P w = .ok v' w' ∧ Inv E kp (fun q => if q = r' then g else φ q) Pub ((r', .row (cells ++ news) e sz pub) :: (r, .dead) :: h) w' ∧
      RA w' Pub (fun q => if q = r' then g else φ q) (.osl r' (n + m)) v' ∧ Adv w Pub w' Pub := by
  subst hsize
  subst hby
  have ha : (look OB.dead h r).alive = true := by rw [hl]; rfl
  have hne : r ≠ r' := fun e => by subst e; rw [ha] at hf; cases hf
  have hfd : (look OB.dead ((r, OB.dead) :: h) r').alive = false := by rw [look_cons, if_neg hne]; exact hf
  have hhd : hHas r' ((r, OB.dead) :: h) = false := by simp only [hHas, OB.has, hh]; rfl
  have hsmall : n + m ≤ 9223372036854775807 := by simp only [maxLen] at h63; omega
  obtain ⟨hs1, hs2, hs3⟩ := hs
  have hnl : news.length = m * i.size := by have := RPs_length hv; omega
  -- a new block
  have grow : ∀ (xs : List Value) (old : Nat), RPs w Pub cells xs → (∀ u ∈ xs, u.oneCell' = true) → old < n + m →
      ∃ g, Inv E kp (fun q => if q = r' then g else φ q) Pub ((r', .row (cells ++ news) e i.size pub) :: (r, .dead) :: h) (w.drew.alloc (.cells (xs.toArray ++ vs.toArray ++ Builtin.zeroCells z.cells (grownCap w (n + m) old e - (n + m))) e)) ∧
      RA (w.drew.alloc (.cells (xs.toArray ++ vs.toArray ++ Builtin.zeroCells z.cells (grownCap w (n + m) old e - (n + m))) e)) Pub (fun q => if q = r' then g else φ q) (.osl r' (n + m)) (.slice (some ⟨w.heap.size, 0, none⟩) (n + m) (grownCap w (n + m) old e)) ∧
      Adv w Pub (w.drew.alloc (.cells (xs.toArray ++ vs.toArray ++ Builtin.zeroCells z.cells (grownCap w (n + m) old e - (n + m))) e)) Pub := by
    intro xs old hx h1 ho
    have hge := grownCap_ge w (n + m) old e
    have hcm : grownCap w (n + m) old e ≤ maxLen := grownCap_le_maxLen w (n + m) old e h63
    have hxl := RPs_length hx
    have ID := (I.drop r).drew
    have hcs : (xs.toArray ++ vs.toArray ++ Builtin.zeroCells z.cells (grownCap w (n + m) old e - (n + m))).size = grownCap w (n + m) old e * i.size := by
      simp only [Array.size_append, List.size_toArray, size_zeroCells, hzs, hxl, ← hn, hs1, ← Nat.add_mul]
      congr 1; omega
    have htk : (xs.toArray ++ vs.toArray ++ Builtin.zeroCells z.cells (grownCap w (n + m) old e - (n + m))).toList.take (cells ++ news).length = xs ++ vs := by
      simp only [Array.toList_append]
      rw [show (cells ++ news).length = (xs ++ vs).length from by simp only [List.length_append]; omega]
      exact List.take_left
    have H := (adv_drew (w := w) (Pub := Pub)).trans (adv_alloc ID (.cells (xs.toArray ++ vs.toArray ++ Builtin.zeroCells z.cells (grownCap w (n + m) old e - (n + m))) e))
    refine ⟨some (w.heap.size, grownCap w (n + m) old e), ID.alloc hfd hhd hk _ (grownCap w (n + m) old e) (.inr ⟨w.heap.size, _, _, (0, 0), if_pos rfl, ⟨heap_alloc_new w.drew _, .inl rfl⟩, hcm, hcs, ?_, ?_, ?_, fun j hj => ?_⟩), ?_, H⟩
    · rw [hcs, List.length_append, ← hn, hnl, ← Nat.add_mul]; exact Nat.mul_le_mul_right _ hge
    · rw [htk]; exact RPs_mono H _ _ (RPs_append hx hv)
    · rw [htk]; intro y hy
      rcases List.mem_append.1 hy with hy | hy
      · exact h1 y hy
      · exact hs2 y hy
    · have := I.publ _ _ hj; exact absurd this (Nat.lt_irrefl _)
    · unfold RA; exact .inl ⟨w.heap.size, _, if_pos rfl, rfl, hge⟩
  have k := I.own r
  rw [hl] at k
  unfold RA at hu
  rcases k with ⟨k0, rfl⟩ | ⟨b, cc, cur, fr, k1, ⟨k2, k2'⟩, k3, k4, k5, k6, k7, k8⟩
  · -- nil
    have hn0 : n = 0 := by
      rcases Nat.eq_zero_or_pos n with h0 | h0
      · exact h0
      · have := Nat.mul_pos h0 hsz; simp at hn; omega
    subst hn0
    have hu' : u = .slice none 0 0 := by
      rcases hu with ⟨b, c, e1, _⟩ | ⟨_, _, e⟩
      · rw [k0] at e1; cases e1
      · exact e
    subst hu'
    rcases Nat.eq_zero_or_pos m with hm | hm
    · subst hm
      have hv0 : vs = [] := List.eq_nil_of_length_eq_zero (by omega)
      have hn0 : news = [] := List.eq_nil_of_length_eq_zero (by omega)
      subst hv0 hn0
      refine ⟨.slice none 0 0, w, none, ?_, (I.drop r).nilRow hfd hhd hk e i.size pub, by unfold RA; exact .inr ⟨if_pos rfl, rfl, rfl⟩, Adv.refl _ _⟩
      rcases hs3 with ⟨rfl, _⟩ | ⟨ad, rfl, _⟩
      · exact run_append_of_nil 0 t ty e i ht hi none 0 0 c (Nat.le_refl _) (fun _ => rfl)
      · simp [Builtin.append_, run_underlying ht, sizeOf, typeInfo, hi, Builtin.lenOf, Builtin.firstCells, loadCells, loadCellsFrom]
    · rcases hs3 with ⟨_, h0⟩ | ⟨ad, rfl, hc⟩
      · omega
      obtain ⟨g, G1, G2, G3⟩ := grow [] 0 (by unfold RPs; rfl) (by simp) (by omega)
      have hr := run_append_nil (P := P) w t ty e i z ht hi hz ad m c vs hs1 hc hm (by omega) (by have hb := hbytes; simp only [Nat.zero_add] at hb; omega)
      simp only [Nat.zero_add, List.nil_append, Array.empty_append] at G1 G2 G3 ⊢
      exact ⟨_, _, g, hr, G1, G2, G3⟩
  · have hu' : u = .slice (some ⟨b, 0, none⟩) n cc ∧ n ≤ cc := by
      rcases hu with ⟨b', c', e1, e2, e3⟩ | ⟨e1, _, _⟩
      · rw [k1] at e1; cases e1; exact ⟨e2, e3⟩
      · rw [k1] at e1; cases e1
    obtain ⟨rfl, hnc⟩ := hu'
    have hxl : (cur.toList.take cells.length).length = n * i.size := by rw [List.length_take, Nat.min_eq_left (by rw [Array.length_toList]; exact k5), hn]
    by_cases hroom : n + m ≤ cc
    · -- in its block
      have hfit : n * i.size + vs.length ≤ cur.size := by rw [hs1, k4, ← Nat.add_mul]; exact Nat.mul_le_mul_right _ hroom
      have place : ∀ (w1 : World) (cur1 : Array Value), w1.os = w.os → w1.tape = w.tape → w1.output = w.output → w1.heap.size = w.heap.size → (∀ k, k ≠ b → w1.heap[k]? = w.heap[k]?) →
          w1.heap[b]? = some (.cells cur1 e fr) → cur1.size = cur.size → cur1.toList.take (cells ++ news).length = cur.toList.take cells.length ++ vs →
          ∃ g, Inv E kp (fun q => if q = r' then g else φ q) Pub ((r', .row (cells ++ news) e i.size pub) :: (r, .dead) :: h) w1 ∧ RA w1 Pub (fun q => if q = r' then g else φ q) (.osl r' (n + m)) (.slice (some ⟨b, 0, none⟩) (n + m) cc) ∧ Adv w Pub w1 Pub := by
        intro w1 cur1 s1 s2 s3 s4 hoth hb1 hsz1 htk
        have H : Adv w Pub w1 Pub := fun q j hp => ⟨hp, by
          by_cases hq : q = b
          · subst hq
            have hj := (k8 j hp).2
            rw [cell_of_row w1 q j cur1 e fr hb1, cell_of_row w q j cur e fr k2]
            have e1 : cur1.toList[j]? = ((cur1.toList.take (cells ++ news).length)[j]?) := by rw [List.getElem?_take_of_lt (by rw [List.length_append]; omega)]
            rw [← Array.getElem?_toList, ← Array.getElem?_toList, e1, htk, List.getElem?_append_left (by omega), List.getElem?_take_of_lt hj]
          · exact World.cell?_of_block (a := ⟨q, j, none⟩) (hoth q hq)⟩
        refine ⟨some (b, cc), I.inplace hl k1 hf hh hk s1 s2 s3 s4 hoth H hb1 (by rw [hsz1]; exact k2') (by rw [hsz1]; exact k4) ?_ ?_ ?_ (by simp), by unfold RA; exact .inl ⟨b, cc, if_pos rfl, rfl, hroom⟩, H⟩
        · rw [hsz1, List.length_append]; omega
        · rw [htk]; exact RPs_mono H _ _ (RPs_append k6 hv)
        · rw [htk]; intro y hy
          rcases List.mem_append.1 hy with hy | hy
          · exact k7 y hy
          · exact hs2 y hy
      rcases hs3 with ⟨rfl, rfl⟩ | ⟨ad, rfl, hc⟩
      · have hv0 : vs = [] := List.eq_nil_of_length_eq_zero (by omega)
        have hn0 : news = [] := List.eq_nil_of_length_eq_zero (by omega)
        subst hv0 hn0
        obtain ⟨g, G1, G2, G3⟩ := place w cur rfl rfl rfl rfl (fun _ _ => rfl) k2 rfl (by simp)
        exact ⟨_, w, g, run_append_of_nil 0 t ty e i ht hi _ n cc c hnc (fun h => by cases h), G1, G2, G3⟩
      · have hst := run_storeCells_cells (P := P) b (n * i.size) vs 0 w (fun j hj => by
            rw [cell_of_row w b _ cur e fr k2, Array.getElem?_eq_getElem (by omega)]; rfl) (fun j hj => by
            unfold World.frozen?; simp only [k2]
            rcases k2' with h0 | h0
            · subst h0; simp
            · have := h0.1; simp; omega) hs2
        have hfc := run_firstCells_some (P := P) w i.size m ad m c vs hs1 hc
        have hr : (Builtin.append_ #[t, t] ty #[.slice (some ⟨b, 0, none⟩) n cc, .slice (some ad) m c]).run P w = .ok (.slice (some ⟨b, 0, none⟩) (n + m) cc) (w.setCells b (n * i.size) vs) := by
          simp only [Nat.add_zero] at hst
          simp [Builtin.append_, run_underlying ht, sizeOf, typeInfo, hi, Builtin.lenOf, hroom, hfc, Addr.add_mid, hst]
        obtain ⟨s1, s2, s3⟩ := streams_setCells b vs (n * i.size) w
        obtain ⟨cur', c1, c2, c3⟩ := heap_setCells_same b vs (n * i.size) w cur e fr k2
        rw [putL_foldl] at c3
        obtain ⟨g, G1, G2, G3⟩ := place (w.setCells b (n * i.size) vs) cur' s1 s2 s3 (size_setCells _ _ _ _) (fun k hk => heap_setCells_other b vs _ w k hk) c1 c2 (by
            rw [c3, hn]
            have hle : cells.length + vs.length ≤ cur.toList.length := by have := Array.length_toList (xs := cur); omega
            rw [show (cells ++ news).length = cells.length + vs.length from by rw [List.length_append]; omega]
            exact putL_app vs cells.length cur.toList hle)
        exact ⟨_, _, g, hr, G1, G2, G3⟩
    · -- in another one
      rcases hs3 with ⟨_, h0⟩ | ⟨ad, rfl, hc⟩
      · omega
      have holds : ∀ j u, (cur.toList.take cells.length)[j]? = some u → w.cell? ((⟨b, 0, none⟩ : Addr).add j) = some u := fun j u hj => by
        rw [Addr.add_mid, Nat.zero_add, cell_of_row w b j cur e fr k2]
        rw [List.getElem?_take] at hj
        split at hj
        · simpa using hj
        · cases hj
      have hr := run_append_grow (P := P) w t ty e i z ht hi hz ⟨b, 0, none⟩ n cc _ hxl holds ad m c vs hs1 hc (by omega) (by omega) (growslice_fits (by omega) hbytes)
      obtain ⟨g, G1, G2, G3⟩ := grow _ cc k6 k7 (by omega)
      exact ⟨_, _, g, hr, G1, G2, G3⟩
end

/-! ### A block of the call's own is shared -/
theorem Inv.share (I : Inv E kp φ Pub h w) {r : Nat} {cells : List PV} {t : TypeId} {sz pub : Nat} {ob : OB} (hl : look OB.dead h r = ob)
    (hob : ob = .row cells t sz pub ∨ (∃ avs, ob = .box avs t ∧ AV.toPs avs = some cells ∧ sz = cells.length) ∨ ∃ avs ns, ob = .ra avs t sz ns ∧ avs.length = cells.length ∧ ∀ vs, RAs w Pub (loc φ ns) avs vs → RPs w Pub cells vs) :
    ∃ Pub', Inv E kp φ Pub' ((r, .row cells t sz cells.length) :: h) w ∧ Adv w Pub w Pub' ∧ (∀ b c, φ r = some (b, c) → RPc w Pub' cells b 0 ∧ c ≤ maxLen) ∧ (φ r = none → cells = []) := by
  have ha : (look OB.dead h r).alive = true := by
    rw [hl]; rcases hob with rfl | ⟨avs, rfl, _⟩ | ⟨avs, ns, rfl, _⟩ <;> rfl
  have k := I.own r
  rw [hl] at k
  have k' : (φ r = none ∧ cells = []) ∨ ∃ b c cur fr, φ r = some (b, c) ∧ (w.heap[b]? = some (.cells cur t fr) ∧ FrOk t cur.size fr) ∧ c ≤ maxLen ∧ cur.size = c * sz ∧ cells.length ≤ cur.size ∧
      RPs w Pub cells (cur.toList.take cells.length) ∧ (∀ u ∈ cur.toList.take cells.length, u.oneCell' = true) ∧ ∀ i, Pub b i → i < cells.length := by
    rcases hob with rfl | ⟨avs, rfl, h1, h2⟩ | ⟨avs, ns, rfl, h1, h2⟩
    · rcases k with k | ⟨b, c, cur, fr, k1, k2, k3, k4, k5, k6, k7, k8⟩
      · exact .inl k
      · exact .inr ⟨b, c, cur, fr, k1, k2, k3, k4, k5, k6, k7, fun i hi => (k8 i hi).2⟩
    · obtain ⟨b, cur, k1, k2, k3, k4, k5⟩ := k
      have k6 := toPs_R h1 k3
      have hlen := RPs_length k6
      rw [Array.length_toList] at hlen
      refine .inr ⟨b, 1, cur, (0, 0), k1, ⟨k2, .inl rfl⟩, by unfold maxLen; omega, by omega, by omega, ?_, ?_, fun i hi => absurd hi (k5 i)⟩
      · rw [List.take_of_length_le (by rw [Array.length_toList]; omega)]; exact k6
      · rw [List.take_of_length_le (by rw [Array.length_toList]; omega)]; exact k4
    · rcases k with ⟨k0, k⟩ | ⟨b, c, cur, fr, k1, k2, k3, k4, k5, k6, k7, k8⟩
      · refine .inl ⟨k0, ?_⟩
        rw [k] at h1; exact List.eq_nil_of_length_eq_zero h1.symm
      · rw [h1] at k5 k6 k7
        exact .inr ⟨b, c, cur, fr, k1, k2, k3, k4, k5, h2 _ k6, k7, fun i hi => absurd hi (k8 i)⟩
  have hal : ∀ q, (look OB.dead ((r, OB.row cells t sz cells.length) :: h) q).alive = true → (look OB.dead h q).alive = true := fun q hq => by
    rw [look_cons] at hq
    by_cases e : r = q
    · subst e; exact ha
    · rw [if_neg e] at hq; exact hq
  rcases k' with ⟨k1, k2⟩ | ⟨b, c, cur, fr, k1, k2, k3, k4, k5, k6, k7, k8⟩
  · refine ⟨Pub, ?_, Adv.refl _ _, (fun b c hb => by rw [k1] at hb; cases hb), fun _ => k2⟩
    refine I.next rfl rfl rfl (Nat.le_refl _) (fun _ _ _ => rfl) (Adv.refl _ _) (fun _ _ hp => .inl hp) I.publ (fun q hq => ?_) (fun q b c hq hb => I.mine q b c (hal q hq) hb) (fun q q' b c c' hq hq' hb hb' => I.inj q q' b c c' (hal q hq) (hal q' hq') hb hb') (fun _ _ => rfl)
    rw [look_cons]
    split
    · next e => subst e; exact .inl ⟨k1, k2⟩
    · exact I.own q
  · have H : Adv w Pub w (fun x i => Pub x i ∨ (x = b ∧ i < cells.length)) := fun x i hp => ⟨.inl hp, rfl⟩
    refine ⟨fun x i => Pub x i ∨ (x = b ∧ i < cells.length), ?_, H, fun b' c' hb => ?_, (fun h0 => by rw [k1] at h0; cases h0)⟩
    · refine I.next rfl rfl rfl (Nat.le_refl _) (fun _ _ _ => rfl) H (fun x i hp => ?_) (fun x i hp => ?_) (fun q hq => ?_) (fun q b c hq hb => I.mine q b c (hal q hq) hb) (fun q q' b c c' hq hq' hb hb' => I.inj q q' b c c' (hal q hq) (hal q' hq') hb hb') (fun _ _ => rfl)
      · rcases hp with hp | ⟨rfl, _⟩
        · exact .inl hp
        · exact .inr (I.mine r x c ha k1)
      · rcases hp with hp | ⟨rfl, _⟩
        · exact I.publ x i hp
        · exact I.lt ha k1
      · have hq' := hal q hq
        rw [look_cons]
        split
        · next e =>
          subst e
          exact .inr ⟨b, c, cur, fr, k1, k2, k3, k4, k5, RPs_mono H _ _ k6, k7, fun i hi => by
            rcases hi with hi | ⟨_, hi⟩
            · exact ⟨k8 i hi, k8 i hi⟩
            · exact ⟨hi, hi⟩⟩
        · next e =>
          refine Hp_keep H (fun x c' hx => ⟨rfl, fun i hi => ?_⟩) rfl (fun _ _ => rfl) (I.own q)
          rcases hi with hi | ⟨rfl, _⟩
          · exact hi
          · exact absurd (I.inj r q x c c' ha hq' k1 hx) e
    · rw [k1] at hb; cases hb
      refine ⟨RPc_of fun i x hx => ?_, k3⟩
      obtain ⟨u, hu, hR⟩ := RPs_get k6 hx
      have hi : i < cells.length := (List.getElem?_eq_some_iff.1 hx).1
      rw [List.getElem?_take_of_lt hi] at hu
      refine ⟨u, ?_, .inr ⟨rfl, by omega⟩, k7 u (List.mem_of_getElem? (by rw [List.getElem?_take_of_lt hi]; exact hu)), RP_mono H x u hR⟩
      rw [Nat.zero_add, cell_of_row w b i cur t fr k2.1]
      simpa using hu
end
end Go.Proofs.YtcebndkiagbddaaGreatDoor

/- One operation, over values without addresses: the rules that touch no memory of the call's own. They name no function of the program. -/
namespace Go.Proofs.YtcebndkiagbddaaGreatDoor
open Go.RowKit
set_option linter.unusedVariables false
set_option linter.unusedSimpArgs false

/-- What the types of a program say, as far as it is wanted. -/
def aggOf (P : Program) (T : TypeId) : Option Bool := (P.underlying T).map fun d => d.isRow
def szOf (P : Program) (T : TypeId) : Option Nat := (P.info? T).map (·.size)
def zeOf (P : Program) (T : TypeId) : Option (List Value) := ((P.info? T).bind (·.zero)).map fun z => z.cells.toList
def plOf (P : Program) (T : TypeId) : Option (List (Nat × Nat)) :=
  match P.underlying T with
  | some (.struct fs) => fs.toList.mapM fun f => (P.info? f.type).map fun i => (f.offset, i.size)
  | _ => none
def arOf (P : Program) (T : TypeId) : Option (Nat × Nat) :=
  match P.underlying T with
  | some (.array n e) => (P.info? e).map fun i => (n, i.size)
  | _ => none
def slOf (P : Program) (T : TypeId) : Option (TypeId × Nat) :=
  match P.underlying T with
  | some (.slice e) => (P.info? e).map fun i => (e, i.size)
  | _ => none

section
variable {P : Program} {E : Env} {kp : List Nat} {n : Nat} {ops : Array Oper} {st st' : AS}

/-- From every frame and world that meet st the operation comes to such as meet st'. -/
def Step (P : Program) (E : Env) (kp : List Nat) (n : Nat) (ops : Array Oper) (o : Oper) (st st' : AS) : Prop :=
  ∀ (a : Act) (w : World) (K : Act → World → Prop) (Q : Exit → Act → World → Prop), Sat E kp n st a w → (∀ a' w', Sat E kp n st' a' w' → K a' w') →
    if Region.wanted o (yielded ops a.tmps) = true then o.wp P a w K Q else K (a.put o.dst undef) w

theorem Step.val {o : Oper} (hg : o.guard = none) (h : ∀ a w, Sat E kp n st a w → ∃ u w', (execOp a.eval o).run P w = .ok (.value u) w' ∧ Sat E kp n st' (a.put o.dst u) w') : Step P E kp n ops o st st' := by
  intro a w K Q hs hK
  obtain ⟨u, w', hr, hs'⟩ := h a w hs
  rw [if_pos (by simp [Region.wanted, hg])]
  unfold Oper.wp; rw [hr]; exact hK _ _ hs'
theorem Step.skip {o : Oper} (hg : o.guard = none) (h : ∀ a w, Sat E kp n st a w → ∃ w', (execOp a.eval o).run P w = .ok .skip w' ∧ Sat E kp n st' (a.put o.dst undef) w') : Step P E kp n ops o st st' := by
  intro a w K Q hs hK
  obtain ⟨w', hr, hs'⟩ := h a w hs
  rw [if_pos (by simp [Region.wanted, hg])]
  unfold Oper.wp; rw [hr]; exact hK _ _ hs'

section
variable {φ : Ghost} {Pub : Nat → Nat → Prop} {w : World} {h : List (Nat × OB)} {sl : List (Nat × AV)} {a : Act}
theorem Sat.put (I : Inv E kp φ Pub h w) (h0 : a.defers = []) (hn : a.tmps.size = n) (hs : ∀ s, RA w Pub φ (look .any sl s) (a.tmps.getD s undef)) {d : Nat} (hd : Nat.blt d n = true) {x : AV} {u : Value} (hx : RA w Pub φ x u) :
    Sat E kp n ⟨(d, x) :: sl, h⟩ (a.put (some d) u) w := by
  have hd : d < n := by rw [Nat.blt_eq] at hd; exact hd
  refine ⟨φ, Pub, I, h0, by simpa [Act.put] using hn, fun s => ?_⟩
  rw [look_cons]
  simp only [Act.put, Array.getD_eq_getD_getElem?, Array.getElem?_setIfInBounds]
  by_cases e : d = s
  · subst e; rw [if_pos rfl, if_pos rfl, if_pos (by omega)]; exact hx
  · rw [if_neg e, if_neg e, ← Array.getD_eq_getD_getElem?]; exact hs s
theorem ev_R (hs : ∀ s, RA w Pub φ (look .any sl s) (a.tmps.getD s undef)) (x : Operand) : RA w Pub φ (AS.ev ⟨sl, h⟩ x) (a.eval x) := by
  cases x with
  | tmp t => exact hs t
  | const c => show RA w Pub φ (.p (.v c)) c; simp [RA, RP]
  | func f => show RA w Pub φ (.p (.v _)) _; simp [RA, RP, Act.eval]
  | global g => show RA w Pub φ .any _; simp [RA]
end

/-- Whatever is an x is a y. -/
def Gv (x y : AV) : Prop := ∀ w Pub φ u, RA w Pub φ x u → RA w Pub φ y u
theorem Gv.r {x : AV} : Gv x x := fun _ _ _ _ h => h
theorem Gv.c {g : Bool} {x y : AV} (hg : g = true) (h : Gv x y) : Gv (.cnd g x) y := fun w Pub φ u k => h w Pub φ u (by unfold RA at k; exact k.1 hg)
theorem Gv.v {x : AV} {v : Value} (h : Gv x (.p (.v v))) {w Pub φ u} (k : RA w Pub φ x u) : u = v := by
  have := h w Pub φ u k; unfold RA RP at this; exact this
theorem Gv.p_ {x : AV} {q : PV} (h : Gv x (.p q)) {w Pub φ u} (k : RA w Pub φ x u) : RP w Pub q u := by
  have := h w Pub φ u k; unfold RA at this; exact this
theorem Gv.agg {l : List PV} : Gv (.agg (l.map .p)) (.p (.agg l)) := fun w Pub φ u k => by
  unfold RA at k ⊢
  unfold RP
  obtain ⟨vs, e, h⟩ := k
  refine ⟨vs, e, ?_⟩
  clear e
  induction l generalizing vs with
  | nil => unfold RAs at h; unfold RPs; exact h
  | cons x l ih =>
    rw [List.map_cons] at h
    unfold RAs at h; unfold RPs
    obtain ⟨u, us, e, h1, h2⟩ := h
    exact ⟨u, us, e, by unfold RA at h1; exact h1, ih us h2⟩
/-- An operation that leaves the world alone. -/
theorem S_pure {o : Oper} {d : Nat} (x : AV) (hg : o.guard = none) (ho : o.dst = some d) (hd : Nat.blt d n = true)
    (h : ∀ (a : Act) (w : World) (φ : Ghost) (Pub : Nat → Nat → Prop), Inv E kp φ Pub st.heap w → (∀ y, RA w Pub φ (st.ev y) (a.eval y)) → ∃ u, (execOp a.eval o).run P w = .ok (.value u) w ∧ RA w Pub φ x u) :
    Step P E kp n ops o st (st.put d x) := by
  refine Step.val hg fun a w ⟨φ, Pub, I, h0, hn, hs⟩ => ?_
  obtain ⟨u, hr, hx⟩ := h a w φ Pub I (ev_R hs)
  exact ⟨u, w, hr, by rw [ho]; exact Sat.put I h0 hn hs hd hx⟩

variable {d : Nat} {ty : TypeId} {ps : String} {af : Array Edge}

section
variable {x : Operand} {o : Op} (ho : o = .move x ∨ o = .assign x) (hd : Nat.blt d n = true)
include ho hd
theorem S_mv {y : AV} (hx : Gv (st.ev x) y) : Step P E kp n ops ⟨some d, o, ty, ps, af, none⟩ st (st.put d y) := by
  rcases ho with rfl | rfl
  · exact S_pure _ rfl rfl hd fun a w φ Pub I hs => ⟨_, rfl, hx _ _ _ _ (hs x)⟩
  · exact S_pure _ rfl rfl hd fun a w φ Pub I hs => ⟨_, rfl, hx _ _ _ _ (hs x)⟩
end
theorem and_i {a b : Bool} (h : a = true) (k : b = true) : (a && b) = true := by rw [h, k]; rfl
theorem beq_t {q : Bool} (h : q = true) : (q == true) = true := by rw [h]; rfl
theorem beq_f {q : Bool} (h : q = false) : (q == false) = true := by rw [h]; rfl
/-- 'c && x', 'c || x', as the translation has them. -/
theorem S_and {c x y : Operand} {g q : Bool} (hc : Gv (st.ev c) (.p (.v (.bool g)))) (hy : Gv (st.ev y) (.p (.v (.bool false)))) (hx : g = true → Gv (st.ev x) (.p (.v (.bool q)))) (hd : Nat.blt d n = true) :
    Step P E kp n ops ⟨some d, .pick c x y, ty, ps, af, none⟩ st (st.put d (.p (.v (.bool (g && q))))) :=
  S_pure _ rfl rfl hd fun a w φ Pub I hs => by
    have e1 := hc.v (hs c)
    cases g with
    | true =>
      have e2 := (hx rfl).v (hs x)
      refine ⟨.bool q, ?_, by simp [RA, RP]⟩
      simp [execOp, e1, e2, asBool]
    | false =>
      have e2 := hy.v (hs y)
      refine ⟨.bool false, ?_, by simp [RA, RP]⟩
      simp [execOp, e1, e2, asBool]
theorem S_or {c x y : Operand} {g q : Bool} (hc : Gv (st.ev c) (.p (.v (.bool g)))) (hy : Gv (st.ev y) (.p (.v (.bool true)))) (hx : g = false → Gv (st.ev x) (.p (.v (.bool q)))) (hd : Nat.blt d n = true) :
    Step P E kp n ops ⟨some d, .pick c y x, ty, ps, af, none⟩ st (st.put d (.p (.v (.bool (g || q))))) :=
  S_pure _ rfl rfl hd fun a w φ Pub I hs => by
    have e1 := hc.v (hs c)
    cases g with
    | false =>
      have e2 := (hx rfl).v (hs x)
      refine ⟨.bool q, ?_, by simp [RA, RP]⟩
      simp [execOp, e1, e2, asBool]
    | true =>
      have e2 := hy.v (hs y)
      refine ⟨.bool true, ?_, by simp [RA, RP]⟩
      simp [execOp, e1, e2, asBool]
theorem S_not {x : Operand} {T : TypeId} {g : Bool} (hx : Gv (st.ev x) (.p (.v (.bool g)))) (hd : Nat.blt d n = true) :
    Step P E kp n ops ⟨some d, .unOp .not T x, ty, ps, af, none⟩ st (st.put d (.p (.v (.bool (!g))))) :=
  S_pure _ rfl rfl hd fun a w φ Pub I hs => by
    have e1 := hx.v (hs x)
    exact ⟨.bool (!g), by simp [execOp, e1, Op.unary], by simp [RA, RP]⟩

/-- An operation under a guard. -/
theorem S_guard {o : Op} {j gs : Nat} {want g : Bool} {x : AV} (hj : (ops[j]?).bind (·.dst) = some gs) (hgs : st.ev (.tmp gs) = .p (.v (.bool g))) (hd : Nat.blt d n = true)
    (h : (g == want) = true → Step P E kp n ops ⟨some d, o, ty, ps, af, none⟩ st (st.put d x)) : Step P E kp n ops ⟨some d, o, ty, ps, af, some (j, want)⟩ st (st.put d (.cnd (g == want) x)) := by
  intro a w K Q hs hK
  obtain ⟨φ, Pub, I, h0, hn, hsl⟩ := hs
  have e0 := ev_R (h := st.heap) hsl (.tmp gs)
  have e1 : a.tmps.getD gs undef = .bool g := by
    have : RA w Pub φ (.p (.v (.bool g))) (a.eval (.tmp gs)) := by rw [← hgs]; exact e0
    unfold RA RP at this; exact this
  have hy : yielded ops a.tmps j = some g := by
    unfold yielded
    rw [hj]
    simp only [Option.bind_some]
    rw [Array.getD_eq_getD_getElem?] at e1
    cases hq : a.tmps[gs]? with
    | none => rw [hq] at e1; simp [undef] at e1
    | some v => rw [hq] at e1; simp at e1; rw [e1]
  have hw : Region.wanted ⟨some d, o, ty, ps, af, some (j, want)⟩ (yielded ops a.tmps) = (g == want) := by
    simp only [Region.wanted, hy]
    cases g <;> cases want <;> rfl
  rw [hw]
  by_cases hgw : (g == want) = true
  · rw [if_pos hgw]
    have := h hgw a w K Q ⟨φ, Pub, I, h0, hn, hsl⟩ (fun a' w' hs' => hK a' w' (by
      obtain ⟨φ', Pub', I', h0', hn', hsl'⟩ := hs'
      refine ⟨φ', Pub', I', h0', hn', fun s => ?_⟩
      have k := hsl' s
      simp only [AS.put, look_cons] at k ⊢
      split
      · next e => rw [if_pos e] at k; unfold RA; exact ⟨fun _ => k, fun hf => by rw [hgw] at hf; cases hf⟩
      · next e => rw [if_neg e] at k; exact k))
    rw [if_pos (by rfl)] at this
    exact this
  · rw [if_neg hgw]
    refine hK _ _ (Sat.put I h0 hn hsl hd ?_)
    unfold RA
    exact ⟨fun hh => absurd hh hgw, fun _ => rfl⟩
/-- A guard that is under a guard. -/
theorem S_guard2 {o : Op} {j gs : Nat} {want g q : Bool} {x : AV} (hj : (ops[j]?).bind (·.dst) = some gs) (hgs : st.ev (.tmp gs) = .cnd g (.p (.v (.bool q)))) (hd : Nat.blt d n = true)
    (h : (g && (q == want)) = true → Step P E kp n ops ⟨some d, o, ty, ps, af, none⟩ st (st.put d x)) : Step P E kp n ops ⟨some d, o, ty, ps, af, some (j, want)⟩ st (st.put d (.cnd (g && (q == want)) x)) := by
  intro a w K Q hs hK
  obtain ⟨φ, Pub, I, h0, hn, hsl⟩ := hs
  have e0 := ev_R (h := st.heap) hsl (.tmp gs)
  have e1 : (g = true → a.tmps.getD gs undef = .bool q) ∧ (g = false → a.tmps.getD gs undef = undef) := by
    have : RA w Pub φ (.cnd g (.p (.v (.bool q)))) (a.eval (.tmp gs)) := by rw [← hgs]; exact e0
    unfold RA at this
    exact ⟨fun hg => by have := this.1 hg; unfold RA RP at this; exact this, this.2⟩
  have hw : Region.wanted ⟨some d, o, ty, ps, af, some (j, want)⟩ (yielded ops a.tmps) = (g && (q == want)) := by
    simp only [Region.wanted, yielded, hj, Option.bind_some]
    rw [Array.getD_eq_getD_getElem?] at e1
    cases g with
    | true =>
      have e2 := e1.1 rfl
      cases hq : a.tmps[gs]? with
      | none => rw [hq] at e2; simp [undef] at e2
      | some v => rw [hq] at e2; simp at e2; subst e2; cases q <;> cases want <;> rfl
    | false =>
      have e2 := e1.2 rfl
      cases hq : a.tmps[gs]? with
      | none => rfl
      | some v => rw [hq] at e2; simp at e2; subst e2; rfl
  rw [hw]
  by_cases hgw : (g && (q == want)) = true
  · rw [if_pos hgw]
    have := h hgw a w K Q ⟨φ, Pub, I, h0, hn, hsl⟩ (fun a' w' hs' => hK a' w' (by
      obtain ⟨φ', Pub', I', h0', hn', hsl'⟩ := hs'
      refine ⟨φ', Pub', I', h0', hn', fun s => ?_⟩
      have k := hsl' s
      simp only [AS.put, look_cons] at k ⊢
      split
      · next e => rw [if_pos e] at k; unfold RA; exact ⟨fun _ => k, fun hf => by rw [hgw] at hf; cases hf⟩
      · next e => rw [if_neg e] at k; exact k))
    rw [if_pos (by rfl)] at this
    exact this
  · rw [if_neg hgw]
    refine hK _ _ (Sat.put I h0 hn hsl hd ?_)
    unfold RA
    exact ⟨fun hh => absurd hh hgw, fun _ => rfl⟩

/-! ### Numbers, strings -/
theorem S_bin {op : BinOp} {T T' : TypeId} {x y : Operand} {u v r : Value} (hx : Gv (st.ev x) (.p (.v u))) (hy : Gv (st.ev y) (.p (.v v))) (hd : Nat.blt d n = true)
    (hr : ∀ w, Sem.run P (do eqGuard op T x y u v; binOp op T u v) w = .ok r w) : Step P E kp n ops ⟨some d, .binOp op T x y T', ty, ps, af, none⟩ st (st.put d (.p (.v r))) :=
  S_pure _ rfl rfl hd fun a w φ Pub I hs => by
    have e1 := hx.v (hs x)
    have e2 := hy.v (hs y)
    have h := hr w
    refine ⟨r, ?_, by simp [RA, RP]⟩
    simp only [execOp, e1, e2]
    rw [Sem.run_bind, h]; rfl
section
variable {T T' : TypeId} {x y : Operand} {k : IntKind} {i j : Int} (hx : Gv (st.ev x) (.p (.v (.int k i)))) (hy : Gv (st.ev y) (.p (.v (.int k j)))) (hd : Nat.blt d n = true)
include hx hy hd
theorem S_lt : Step P E kp n ops ⟨some d, .binOp .lss T x y T', ty, ps, af, none⟩ st (st.put d (.p (.v (.bool (decide (i < j)))))) := S_bin hx hy hd fun w => by simp [eqGuard, binOp, Op.intCmp]
theorem S_le : Step P E kp n ops ⟨some d, .binOp .leq T x y T', ty, ps, af, none⟩ st (st.put d (.p (.v (.bool (decide (i ≤ j)))))) := S_bin hx hy hd fun w => by simp [eqGuard, binOp, Op.intCmp]
theorem S_gt : Step P E kp n ops ⟨some d, .binOp .gtr T x y T', ty, ps, af, none⟩ st (st.put d (.p (.v (.bool (decide (j < i)))))) := S_bin hx hy hd fun w => by simp [eqGuard, binOp, Op.intCmp]
theorem S_ge : Step P E kp n ops ⟨some d, .binOp .geq T x y T', ty, ps, af, none⟩ st (st.put d (.p (.v (.bool (decide (j ≤ i)))))) := S_bin hx hy hd fun w => by simp [eqGuard, binOp, Op.intCmp]
theorem S_eq : Step P E kp n ops ⟨some d, .binOp .eql T x y T', ty, ps, af, none⟩ st (st.put d (.p (.v (.bool (decide (i = j)))))) := S_bin hx hy hd fun w => by simp [eqGuard, binOp, Op.intCmp]; rfl
theorem S_ne : Step P E kp n ops ⟨some d, .binOp .neq T x y T', ty, ps, af, none⟩ st (st.put d (.p (.v (.bool (!decide (i = j)))))) := S_bin hx hy hd fun w => by simp [eqGuard, binOp, Op.intCmp]; rfl
theorem S_addk {r : Int} (hr : k.wrap (i + j) = r) : Step P E kp n ops ⟨some d, .binOp .add T x y T', ty, ps, af, none⟩ st (st.put d (.p (.v (.int k r)))) := S_bin hx hy hd fun w => by simp [eqGuard, binOp, Op.intArith, hr]
theorem S_subk {r : Int} (hr : k.wrap (i - j) = r) : Step P E kp n ops ⟨some d, .binOp .sub T x y T', ty, ps, af, none⟩ st (st.put d (.p (.v (.int k r)))) := S_bin hx hy hd fun w => by simp [eqGuard, binOp, Op.intArith, hr]
theorem S_mulk {r : Int} (hr : k.wrap (i * j) = r) : Step P E kp n ops ⟨some d, .binOp .mul T x y T', ty, ps, af, none⟩ st (st.put d (.p (.v (.int k r)))) := S_bin hx hy hd fun w => by simp [eqGuard, binOp, Op.intArith, hr]
theorem S_quok {r : Int} (h0 : j ≠ 0) (hr : k.wrap (i.tdiv j) = r) : Step P E kp n ops ⟨some d, .binOp .quo T x y T', ty, ps, af, none⟩ st (st.put d (.p (.v (.int k r)))) := S_bin hx hy hd fun w => by simp [eqGuard, binOp, Op.intDiv, h0, hr]
theorem S_remk {r : Int} (h0 : j ≠ 0) (hr : i.tmod j = r) : Step P E kp n ops ⟨some d, .binOp .rem T x y T', ty, ps, af, none⟩ st (st.put d (.p (.v (.int k r)))) := S_bin hx hy hd fun w => by simp [eqGuard, binOp, Op.intDiv, h0, hr]
theorem S_andk {r : Int} (hr : k.wrap ((BitVec.ofInt k.bits i &&& BitVec.ofInt k.bits j).toNat : Int) = r) : Step P E kp n ops ⟨some d, .binOp .and T x y T', ty, ps, af, none⟩ st (st.put d (.p (.v (.int k r)))) := S_bin hx hy hd fun w => by simp only [eqGuard, binOp, Op.intBits, hr]; simp
theorem S_ork {r : Int} (hr : k.wrap ((BitVec.ofInt k.bits i ||| BitVec.ofInt k.bits j).toNat : Int) = r) : Step P E kp n ops ⟨some d, .binOp .or T x y T', ty, ps, af, none⟩ st (st.put d (.p (.v (.int k r)))) := S_bin hx hy hd fun w => by simp only [eqGuard, binOp, Op.intBits, hr]; simp
theorem S_xork {r : Int} (hr : k.wrap ((BitVec.ofInt k.bits i ^^^ BitVec.ofInt k.bits j).toNat : Int) = r) : Step P E kp n ops ⟨some d, .binOp .xor T x y T', ty, ps, af, none⟩ st (st.put d (.p (.v (.int k r)))) := S_bin hx hy hd fun w => by simp only [eqGuard, binOp, Op.intBits, hr]; simp
theorem S_andNotk {r : Int} (hr : k.wrap ((BitVec.ofInt k.bits i &&& ~~~ BitVec.ofInt k.bits j).toNat : Int) = r) : Step P E kp n ops ⟨some d, .binOp .andNot T x y T', ty, ps, af, none⟩ st (st.put d (.p (.v (.int k r)))) := S_bin hx hy hd fun w => by simp only [eqGuard, binOp, Op.intBits, hr]; simp
end
theorem S_shrk {T T' : TypeId} {x y : Operand} {k k' : IntKind} {i j q : Int} (hx : Gv (st.ev x) (.p (.v (.int k i)))) (hy : Gv (st.ev y) (.p (.v (.int k' j)))) (hd : Nat.blt d n = true) (h0 : decide (j < 0) = false) (hq : (2 : Int) ^ (min j.toNat k.bits) = q) : Step P E kp n ops ⟨some d, .binOp .shr T x y T', ty, ps, af, none⟩ st (st.put d (.p (.v (.int k (i / q))))) := S_bin hx hy hd fun w => by
  have h0 := of_decide_eq_false h0
  have e : i.fdiv (2 ^ (min j.toNat k.bits)) = i / q := by
    rw [hq, Int.fdiv_eq_ediv_of_nonneg]
    rw [← hq]; exact Int.le_of_lt (Int.pow_pos (by decide))
  simp [eqGuard, binOp, Op.shift, h0, e]
theorem S_shlk {T T' : TypeId} {x y : Operand} {k k' : IntKind} {i j q r : Int} (hx : Gv (st.ev x) (.p (.v (.int k i)))) (hy : Gv (st.ev y) (.p (.v (.int k' j)))) (hd : Nat.blt d n = true) (h0 : decide (j < 0) = false) (hq : (2 : Int) ^ (min j.toNat k.bits) = q) (hr : k.wrap (i * q) = r) : Step P E kp n ops ⟨some d, .binOp .shl T x y T', ty, ps, af, none⟩ st (st.put d (.p (.v (.int k r)))) := S_bin hx hy hd fun w => by
  have h0 := of_decide_eq_false h0
  simp [eqGuard, binOp, Op.shift, h0, hq, hr]
end
end Go.Proofs.YtcebndkiagbddaaGreatDoor

/- One operation, over values without addresses: loads, stores, variables, fields, elements. They name no function of the program. -/
namespace Go.Proofs.YtcebndkiagbddaaGreatDoor
open Go.RowKit
set_option linter.unusedVariables false
set_option linter.unusedSimpArgs false

section
variable {P : Program} {E : Env} {kp : List Nat} {n : Nat} {ops : Array Oper} {st st' : AS} {d : Nat} {ty : TypeId} {ps : String} {af : Array Edge}

theorem run_isAgg {T : TypeId} {g : Bool} (hT : aggOf P T = some g) (w : World) : (isAgg T).run P w = .ok g w := by
  unfold aggOf at hT
  cases hu : P.underlying T with
  | none => rw [hu] at hT; cases hT
  | some dd =>
    rw [hu] at hT
    simp only [Option.map_some, Option.some.injEq] at hT
    unfold isAgg
    rw [Sem.run_bind, run_underlying hu w]
    cases dd <;> simp [TypeDesc.isRow] at hT <;> subst hT <;> rfl
theorem run_sizeOf {T : TypeId} {s : Nat} (hT : szOf P T = some s) (w : World) : (sizeOf T).run P w = .ok s w := by
  unfold szOf at hT
  cases hu : P.info? T with
  | none => rw [hu] at hT; cases hT
  | some i =>
    rw [hu] at hT
    simp only [Option.map_some, Option.some.injEq] at hT
    simp [sizeOf, typeInfo, hu, hT]
theorem run_zeroCells {T : TypeId} {z : List Value} (hT : zeOf P T = some z) (w : World) : ∃ v : Value, (zeroValue T).run P w = .ok v w ∧ v.cells = z.toArray := by
  unfold zeOf at hT
  cases hu : P.info? T with
  | none => rw [hu] at hT; cases hT
  | some i =>
    rw [hu] at hT
    simp only [Option.bind_some] at hT
    cases hz : i.zero with
    | none => rw [hz] at hT; cases hT
    | some v =>
      rw [hz] at hT
      simp only [Option.map_some, Option.some.injEq] at hT
      exact ⟨v, by simp [zeroValue, typeInfo, hu, hz], by rw [← hT]⟩

/-! ### Addresses -/
theorem S_nilOwn {x : Operand} {r off : Nat} (hx : Gv (st.ev x) (.own r off)) (hd : Nat.blt d n = true) : Step P E kp n ops ⟨some d, .nilCheck x, ty, ps, af, none⟩ st (st.put d (.own r off)) :=
  S_pure _ rfl rfl hd fun a w φ Pub I hs => by
    have h := hx _ _ _ _ (hs x)
    refine ⟨a.eval x, ?_, h⟩
    unfold RA at h
    obtain ⟨b, c, _, e⟩ := h
    simp [execOp, e]
theorem S_nilPp {x : Operand} {cells : List PV} {off : Nat} (hx : Gv (st.ev x) (.p (.pp cells off))) (hd : Nat.blt d n = true) : Step P E kp n ops ⟨some d, .nilCheck x, ty, ps, af, none⟩ st (st.put d (.p (.pp cells off))) :=
  S_pure _ rfl rfl hd fun a w φ Pub I hs => by
    have h := hx _ _ _ _ (hs x)
    refine ⟨a.eval x, ?_, h⟩
    unfold RA RP at h
    obtain ⟨b, c, e, _⟩ := h
    simp [execOp, e]

theorem mapM_get {T : TypeId} {fs : Array Field} {pl : List (Nat × Nat)} (hu : P.underlying T = some (.struct fs)) (hp : plOf P T = some pl) {i o s : Nat} (hi : pl[i]? = some (o, s)) :
    ∃ f, fs[i]? = some f ∧ f.offset = o ∧ szOf P f.type = some s := by
  unfold plOf at hp
  rw [hu] at hp
  simp only at hp
  have key : ∀ (l : List Field) (pl : List (Nat × Nat)) (i : Nat), (l.mapM fun f => (P.info? f.type).map fun i => (f.offset, i.size)) = some pl → pl[i]? = some (o, s) → ∃ f, l[i]? = some f ∧ f.offset = o ∧ szOf P f.type = some s := by
    intro l
    induction l with
    | nil => intro pl i h1 h2; simp at h1; subst h1; simp at h2
    | cons f l ih =>
      intro pl i h1 h2
      rw [List.mapM_cons] at h1
      cases hq : P.info? f.type with
      | none => rw [hq] at h1; cases h1
      | some fi =>
        rw [hq] at h1
        cases hl : (l.mapM fun f => (P.info? f.type).map fun i => (f.offset, i.size)) with
        | none => simp only [hl] at h1; cases h1
        | some pl' =>
          simp only [hl, Option.map_some] at h1
          cases h1
          cases i with
          | zero =>
            simp at h2
            exact ⟨f, rfl, h2.1, by unfold szOf; rw [hq]; simp [h2.2]⟩
          | succ i =>
            simp at h2
            obtain ⟨f', h3, h4⟩ := ih pl' i hl h2
            exact ⟨f', by simpa using h3, h4⟩
  obtain ⟨f, h1, h2⟩ := key fs.toList pl i hp hi
  exact ⟨f, by simpa using h1, h2⟩
theorem struct_of {T : TypeId} {pl : List (Nat × Nat)} (hp : plOf P T = some pl) : ∃ fs, P.underlying T = some (.struct fs) := by
  unfold plOf at hp
  split at hp
  · next fs h => exact ⟨fs, h⟩
  · cases hp

theorem run_fieldAt {T : TypeId} {pl : List (Nat × Nat)} (hp : plOf P T = some pl) {i o s : Nat} (hi : pl[i]? = some (o, s)) (hs : s ≠ 0) (b off : Nat) (w : World) :
    (Instr.fieldAt T (.pointer (some ⟨b, off, none⟩)) i).run P w = .ok (.pointer (some ⟨b, off + o, none⟩)) w := by
  obtain ⟨fs, hu⟩ := struct_of hp
  obtain ⟨f, h1, h2, h3⟩ := mapM_get hu hp hi
  unfold Instr.fieldAt
  rw [Sem.run_bind, run_underlying hu w]
  simp [h1, Instr.sureAddr, fieldPlace, run_sizeOf h3, hs, h2, Addr.add_mid]
theorem S_fieldOwn {T : TypeId} {x : Operand} {f r off o s : Nat} {pl : List (Nat × Nat)} (hx : Gv (st.ev x) (.own r off)) (hp : plOf P T = some pl) (hi : pl[f]? = some (o, s)) (hs : s ≠ 0) (hd : Nat.blt d n = true) :
    Step P E kp n ops ⟨some d, .fieldAddr T x f, ty, ps, af, none⟩ st (st.put d (.own r (off + o))) :=
  S_pure _ rfl rfl hd fun a w φ Pub I hR => by
    have h := hx _ _ _ _ (hR x)
    unfold RA at h
    obtain ⟨b, c, e0, e⟩ := h
    refine ⟨.pointer (some ⟨b, off + o, none⟩), ?_, by unfold RA; exact ⟨b, c, e0, rfl⟩⟩
    simp only [execOp, e]
    rw [Sem.run_bind, run_fieldAt hp hi hs]; rfl
theorem S_fieldPp {T : TypeId} {x : Operand} {f off o s : Nat} {cells : List PV} {pl : List (Nat × Nat)} (hx : Gv (st.ev x) (.p (.pp cells off))) (hp : plOf P T = some pl) (hi : pl[f]? = some (o, s)) (hs : s ≠ 0) (hd : Nat.blt d n = true) :
    Step P E kp n ops ⟨some d, .fieldAddr T x f, ty, ps, af, none⟩ st (st.put d (.p (.pp cells (off + o)))) :=
  S_pure _ rfl rfl hd fun a w φ Pub I hR => by
    have h := hx _ _ _ _ (hR x)
    unfold RA RP at h
    obtain ⟨b, q, e, h⟩ := h
    refine ⟨.pointer (some ⟨b, q + (off + o), none⟩), ?_, by unfold RA RP; exact ⟨b, q, rfl, h⟩⟩
    simp only [execOp, e]
    rw [Sem.run_bind, run_fieldAt hp hi hs, Nat.add_assoc]; rfl

theorem sl_of {T e : TypeId} {s : Nat} (hT : slOf P T = some (e, s)) : P.underlying T = some (.slice e) ∧ szOf P e = some s := by
  unfold slOf at hT
  split at hT
  · next e' h =>
    cases hq : P.info? e' with
    | none => rw [hq] at hT; cases hT
    | some i =>
      rw [hq] at hT
      simp only [Option.map_some, Option.some.injEq, Prod.mk.injEq] at hT
      obtain ⟨rfl, h2⟩ := hT
      exact ⟨h, by unfold szOf; rw [hq]; simp [h2]⟩
  · cases hT
theorem ar_of {T : TypeId} {m s : Nat} (hT : arOf P T = some (m, s)) : ∃ e, P.underlying T = some (.array m e) ∧ szOf P e = some s := by
  unfold arOf at hT
  split at hT
  · next m' e' h =>
    cases hq : P.info? e' with
    | none => rw [hq] at hT; cases hT
    | some i =>
      rw [hq] at hT
      simp only [Option.map_some, Option.some.injEq, Prod.mk.injEq] at hT
      obtain ⟨rfl, h2⟩ := hT
      exact ⟨e', h, by unfold szOf; rw [hq]; simp [h2]⟩
  · cases hT
theorem run_indexSl {T e : TypeId} {s : Nat} (hT : slOf P T = some (e, s)) (b off m c : Nat) {k : IntKind} {i : Int} (h0 : 0 ≤ i) (h1 : i < m) (w : World) :
    (Instr.indexAt T (.slice (some ⟨b, off, none⟩) m c) (.int k i)).run P w = .ok (.pointer (some ⟨b, off + i.toNat * s, none⟩)) w := by
  obtain ⟨hu, hs⟩ := sl_of hT
  simp [Instr.indexAt, asIntOf, run_underlying hu, h0, h1, run_sizeOf hs, Addr.add_mid]
theorem run_indexAr {T : TypeId} {m s : Nat} (hT : arOf P T = some (m, s)) (b off : Nat) {k : IntKind} {i : Int} (h0 : 0 ≤ i) (h1 : i < m) (w : World) :
    (Instr.indexAt T (.pointer (some ⟨b, off, none⟩)) (.int k i)).run P w = .ok (.pointer (some ⟨b, off + i.toNat * s, none⟩)) w := by
  obtain ⟨e, hu, hs⟩ := ar_of hT
  simp [Instr.indexAt, asIntOf, run_underlying hu, Instr.sureAddr, h0, h1, run_sizeOf hs, Addr.add_mid]
section
variable {T e : TypeId} {x y : Operand} {k : IntKind} {i : Int} {s : Nat} (hy : Gv (st.ev y) (.p (.v (.int k i)))) (hd : Nat.blt d n = true)
include hy hd
/-- An element of a shared slice. -/
theorem S_indexSl {cells : List PV} {m : Nat} (hx : Gv (st.ev x) (.p (.sl cells m))) (hT : slOf P T = some (e, s)) (h0 : 0 ≤ i) (h1 : i < m) :
    Step P E kp n ops ⟨some d, .indexAddr T x y, ty, ps, af, none⟩ st (st.put d (.p (.pp cells (i.toNat * s)))) :=
  S_pure _ rfl rfl hd fun a w φ Pub I hR => by
    have h := hx _ _ _ _ (hR x)
    unfold RA RP at h
    obtain ⟨ad, c, e1, h2, h3, h3', h4⟩ := h
    rcases h4 with h4 | ⟨b, o, e4, h4⟩
    · omega
    subst e4
    refine ⟨.pointer (some ⟨b, o + i.toNat * s, none⟩), ?_, by unfold RA RP; exact ⟨b, o, rfl, h4⟩⟩
    simp only [execOp, e1, hy.v (hR y)]
    rw [Sem.run_bind, run_indexSl hT b o m c h0 h1]; rfl
/-- An element of a row of the call's own. -/
theorem S_indexOsl {r m sz pub : Nat} {cells : List PV} {t : TypeId} (hx : Gv (st.ev x) (.osl r m)) (hT : slOf P T = some (e, s)) (h0 : 0 ≤ i) (h1 : i < m) :
    Step P E kp n ops ⟨some d, .indexAddr T x y, ty, ps, af, none⟩ st (st.put d (.own r (i.toNat * s))) :=
  S_pure _ rfl rfl hd fun a w φ Pub I hR => by
    have h := hx _ _ _ _ (hR x)
    unfold RA at h
    rcases h with ⟨b, c, e1, e2, h3⟩ | ⟨_, h2, _⟩
    · refine ⟨.pointer (some ⟨b, 0 + i.toNat * s, none⟩), ?_, by unfold RA; exact ⟨b, c, e1, by rw [Nat.zero_add]⟩⟩
      simp only [execOp, e2, hy.v (hR y)]
      rw [Sem.run_bind, run_indexSl hT b 0 m c h0 h1]; rfl
    · omega
/-- An element of an array variable. -/
theorem S_indexArr {r off m : Nat} (hx : Gv (st.ev x) (.own r off)) (hT : arOf P T = some (m, s)) (h0 : 0 ≤ i) (h1 : i < m) :
    Step P E kp n ops ⟨some d, .indexAddr T x y, ty, ps, af, none⟩ st (st.put d (.own r (off + i.toNat * s))) :=
  S_pure _ rfl rfl hd fun a w φ Pub I hR => by
    have h := hx _ _ _ _ (hR x)
    unfold RA at h
    obtain ⟨b, c, e0, e1⟩ := h
    refine ⟨.pointer (some ⟨b, off + i.toNat * s, none⟩), ?_, by unfold RA; exact ⟨b, c, e0, rfl⟩⟩
    simp only [execOp, e1, hy.v (hR y)]
    rw [Sem.run_bind, run_indexAr hT b off h0 h1]; rfl
theorem S_indexArrPp {off m : Nat} {cells : List PV} (hx : Gv (st.ev x) (.p (.pp cells off))) (hT : arOf P T = some (m, s)) (h0 : 0 ≤ i) (h1 : i < m) :
    Step P E kp n ops ⟨some d, .indexAddr T x y, ty, ps, af, none⟩ st (st.put d (.p (.pp cells (off + i.toNat * s)))) :=
  S_pure _ rfl rfl hd fun a w φ Pub I hR => by
    have h := hx _ _ _ _ (hR x)
    unfold RA RP at h
    obtain ⟨b, q, e1, h⟩ := h
    refine ⟨.pointer (some ⟨b, q + (off + i.toNat * s), none⟩), ?_, by unfold RA RP; exact ⟨b, q, rfl, h⟩⟩
    simp only [execOp, e1, hy.v (hR y)]
    rw [Sem.run_bind, run_indexAr hT b (q + off) h0 h1, Nat.add_assoc]; rfl
/-- A byte of a string. -/
theorem S_indexStr {l : List UInt8} {c : UInt8} (hx : Gv (st.ev x) (.p (.v (.string ⟨l.toArray⟩)))) (hT : P.underlying T = some .string) (h0 : 0 ≤ i) (h1 : l[i.toNat]? = some c) :
    Step P E kp n ops ⟨some d, .index T x y, ty, ps, af, none⟩ st (st.put d (.p (.v (.int .u8 (c.toNat : Int))))) :=
  S_pure _ rfl rfl hd fun a w φ Pub I hR => by
    refine ⟨.int .u8 (c.toNat : Int), ?_, by simp [RA, RP]⟩
    have hg : (⟨l.toArray⟩ : ByteArray)[i.toNat]? = some c := by
      have hlt : i.toNat < l.length := (List.getElem?_eq_some_iff.1 h1).1
      have hlt' : i.toNat < (⟨l.toArray⟩ : ByteArray).size := by simpa [ByteArray.size] using hlt
      have h2 := (List.getElem?_eq_some_iff.1 h1).2
      rw [getElem?_pos (⟨l.toArray⟩ : ByteArray) i.toNat hlt', ← h2]; rfl
    simp only [execOp, hx.v (hR x), hy.v (hR y)]
    rw [Sem.run_bind]
    simp [Instr.index, asIntOf, run_underlying hT, h0, hg]
/-- An element of an array that stands in a slot. -/
theorem S_indexAgg {l : List AV} {m : Nat} {v : AV} (hx : Gv (st.ev x) (.agg l)) (hT : P.underlying T = some (.array m e)) (he : aggOf P e = some false) (hz : szOf P e = some 1) (h0 : 0 ≤ i) (h1 : i < m) (hv : l[i.toNat]? = some v) :
    Step P E kp n ops ⟨some d, .index T x y, ty, ps, af, none⟩ st (st.put d v) :=
  S_pure _ rfl rfl hd fun a w φ Pub I hR => by
    have h := hx _ _ _ _ (hR x)
    unfold RA at h
    obtain ⟨vs, e1, h⟩ := h
    obtain ⟨u, hu, hRv⟩ := RAs_get h hv
    refine ⟨u, ?_, hRv⟩
    simp only [execOp, e1, hy.v (hR y)]
    rw [Sem.run_bind]
    simp [Instr.index, asIntOf, run_underlying hT, h0, h1, run_sizeOf hz, part, run_isAgg he, hu]
/-- A struct out of an array that stands in a slot. -/
theorem S_indexAggN {l : List AV} {m : Nat} {v : List AV} (hx : Gv (st.ev x) (.agg l)) (hT : P.underlying T = some (.array m e)) (he : aggOf P e = some true) (hz : szOf P e = some s) (h0 : 0 ≤ i) (h1 : i < m) (hv : (l.drop (i.toNat * s)).take s = v) :
    Step P E kp n ops ⟨some d, .index T x y, ty, ps, af, none⟩ st (st.put d (.agg v)) :=
  S_pure _ rfl rfl hd fun a w φ Pub I hR => by
    have h := hx _ _ _ _ (hR x)
    unfold RA at h
    obtain ⟨vs, e1, h⟩ := h
    refine ⟨.agg (vs.toArray.extract (i.toNat * s) (i.toNat * s + s)), ?_, ?_⟩
    · simp only [execOp, e1, hy.v (hR y)]
      rw [Sem.run_bind]
      simp [Instr.index, asIntOf, run_underlying hT, h0, h1, run_sizeOf hz, part, run_isAgg he]
    · unfold RA
      refine ⟨(vs.drop (i.toNat * s)).take s, ?_, by rw [← hv]; exact RAs_take s (RAs_drop _ h)⟩
      simp
end

/-! ### Loads -/
theorem run_load1 {T : TypeId} (hT : aggOf P T = some false) {b off : Nat} {u : Value} {w : World} (hc : w.cell? ⟨b, off, none⟩ = some u) : (Instr.loadAt T (.pointer (some ⟨b, off, none⟩))).run P w = .ok u w := by
  simp [Instr.loadAt, Instr.sureAddr, loadVar, run_isAgg hT, load, Sem.run, hc]
theorem run_loadN {T : TypeId} {s : Nat} (hT : aggOf P T = some true) (hs : szOf P T = some s) {b off : Nat} {vs : List Value} {w : World} (hl : vs.length = s) (hc : w.rangeAt b off vs) :
    (Instr.loadAt T (.pointer (some ⟨b, off, none⟩))).run P w = .ok (.agg vs.toArray) w := by
  have hl' : (loadCells ⟨b, off, none⟩ s).run P w = .ok vs.toArray w := by
    rw [← hl]; exact run_loadCells_list (P := P) w ⟨b, off, none⟩ vs (fun j v hv => by rw [Addr.add_mid]; exact hc j v hv)
  simp [Instr.loadAt, Instr.sureAddr, loadVar, run_isAgg hT, run_sizeOf hs, hl']
section
variable {φ : Ghost} {Pub : Nat → Nat → Prop} {h : List (Nat × OB)} {w : World}
theorem own_cell_box (I : Inv E kp φ Pub h w) {r b c : Nat} {cells : List AV} {t : TypeId} (hl : look OB.dead h r = .box cells t) (hr : φ r = some (b, c)) :
    ∃ cur : Array Value, w.heap[b]? = some (.cells cur t (0, 0)) ∧ RAs w Pub φ cells cur.toList ∧ ∀ u ∈ cur.toList, u.oneCell' = true := by
  have k := I.own r
  rw [hl] at k
  obtain ⟨b', cur, k1, k2, k3, k4, k5⟩ := k
  rw [hr] at k1; cases k1
  exact ⟨cur, k2, k3, k4⟩
theorem own_cell_row (I : Inv E kp φ Pub h w) {r b c sz pub : Nat} {cells : List PV} {t : TypeId} (hl : look OB.dead h r = .row cells t sz pub) (hr : φ r = some (b, c)) :
    ∃ vs : List Value, RPs w Pub cells vs ∧ (∀ u ∈ vs, u.oneCell' = true) ∧ ∀ j u, vs[j]? = some u → w.cell? ⟨b, j, none⟩ = some u := by
  have k := I.own r
  rw [hl] at k
  rcases k with ⟨k0, _⟩ | ⟨b', c', cur, fr, k1, ⟨k2, k2'⟩, k3, k4, k5, k6, k7, k8⟩
  · rw [hr] at k0; cases k0
  rw [hr] at k1; cases k1
  refine ⟨_, k6, k7, fun j u hj => ?_⟩
  rw [cell_of_row w b j cur t fr k2]
  rw [List.getElem?_take] at hj
  split at hj
  · simpa using hj
  · cases hj
end
section
variable {T : TypeId} {x : Operand} (hd : Nat.blt d n = true)
include hd
theorem S_loadBox {r off : Nat} {cells : List AV} {t : TypeId} {v : AV} (hx : Gv (st.ev x) (.own r off)) (hT : aggOf P T = some false) (hl : st.ob r = .box cells t) (hv : cells[off]? = some v) :
    Step P E kp n ops ⟨some d, .load T x, ty, ps, af, none⟩ st (st.put d v) :=
  S_pure _ rfl rfl hd fun a w φ Pub I hR => by
    have h := hx _ _ _ _ (hR x)
    unfold RA at h
    obtain ⟨b, c, e0, e⟩ := h
    obtain ⟨cur, c1, c2, _⟩ := own_cell_box I hl e0
    obtain ⟨u, hu, hRv⟩ := RAs_get c2 hv
    refine ⟨u, ?_, hRv⟩
    simp only [execOp, e]
    rw [Sem.run_bind, run_load1 hT (by rw [cell_of_row w b off cur t (0, 0) c1]; simpa using hu)]; rfl
theorem S_loadBoxN {r off s : Nat} {cells : List AV} {t : TypeId} {l : List AV} (hx : Gv (st.ev x) (.own r off)) (hT : aggOf P T = some true) (hs : szOf P T = some s) (hl : st.ob r = .box cells t)
    (hv : (cells.drop off).take s = l) (hlen : l.length = s) : Step P E kp n ops ⟨some d, .load T x, ty, ps, af, none⟩ st (st.put d (.agg l)) :=
  S_pure _ rfl rfl hd fun a w φ Pub I hR => by
    have h := hx _ _ _ _ (hR x)
    unfold RA at h
    obtain ⟨b, c, e0, e⟩ := h
    obtain ⟨cur, c1, c2, _⟩ := own_cell_box I hl e0
    have c3 := RAs_take s (RAs_drop off c2)
    rw [hv] at c3
    refine ⟨_, ?_, by unfold RA; exact ⟨_, rfl, c3⟩⟩
    simp only [execOp, e]
    rw [Sem.run_bind, run_loadN hT hs (by rw [RAs_length c3]; exact hlen) (fun j v hj => by
      rw [cell_of_row w b _ cur t (0, 0) c1]
      rw [List.getElem?_take] at hj
      split at hj
      · rw [List.getElem?_drop] at hj; simpa using hj
      · cases hj)]; rfl
theorem S_loadRow {r off sz pub : Nat} {cells : List PV} {t : TypeId} {v : PV} (hx : Gv (st.ev x) (.own r off)) (hT : aggOf P T = some false) (hl : st.ob r = .row cells t sz pub) (hv : cells[off]? = some v) :
    Step P E kp n ops ⟨some d, .load T x, ty, ps, af, none⟩ st (st.put d (.p v)) :=
  S_pure _ rfl rfl hd fun a w φ Pub I hR => by
    have h := hx _ _ _ _ (hR x)
    unfold RA at h
    obtain ⟨b, c, e0, e⟩ := h
    obtain ⟨vs, c1, c2, c3⟩ := own_cell_row I hl e0
    obtain ⟨u, hu, hRv⟩ := RPs_get c1 hv
    refine ⟨u, ?_, by unfold RA; exact hRv⟩
    simp only [execOp, e]
    rw [Sem.run_bind, run_load1 hT (c3 off u hu)]; rfl
theorem S_loadRowN {r off s sz pub : Nat} {cells : List PV} {t : TypeId} {l : List PV} (hx : Gv (st.ev x) (.own r off)) (hT : aggOf P T = some true) (hs : szOf P T = some s) (hl : st.ob r = .row cells t sz pub)
    (hv : (cells.drop off).take s = l) (hlen : l.length = s) : Step P E kp n ops ⟨some d, .load T x, ty, ps, af, none⟩ st (st.put d (.p (.agg l))) :=
  S_pure _ rfl rfl hd fun a w φ Pub I hR => by
    have h := hx _ _ _ _ (hR x)
    unfold RA at h
    obtain ⟨b, c, e0, e⟩ := h
    obtain ⟨vs, c1, c2, c3⟩ := own_cell_row I hl e0
    have c4 := RPs_take s (RPs_drop off c1)
    rw [hv] at c4
    refine ⟨_, ?_, by unfold RA RP; exact ⟨_, rfl, c4⟩⟩
    simp only [execOp, e]
    rw [Sem.run_bind, run_loadN hT hs (by rw [RPs_length c4]; exact hlen) (fun j v hj => by
      rw [List.getElem?_take] at hj
      split at hj
      · rw [List.getElem?_drop] at hj; exact c3 _ _ hj
      · cases hj)]; rfl
theorem S_loadPp {off : Nat} {cells : List PV} {v : PV} (hx : Gv (st.ev x) (.p (.pp cells off))) (hT : aggOf P T = some false) (hv : cells[off]? = some v) :
    Step P E kp n ops ⟨some d, .load T x, ty, ps, af, none⟩ st (st.put d (.p v)) :=
  S_pure _ rfl rfl hd fun a w φ Pub I hR => by
    have h := hx _ _ _ _ (hR x)
    unfold RA RP at h
    obtain ⟨b, o, e, hc⟩ := h
    obtain ⟨u, hu, _, _, hRv⟩ := RPc_get hc hv
    refine ⟨u, ?_, by unfold RA; exact hRv⟩
    simp only [execOp, e]
    rw [Sem.run_bind, run_load1 hT hu]; rfl
theorem S_loadPpN {off s : Nat} {cells : List PV} {l : List PV} (hx : Gv (st.ev x) (.p (.pp cells off))) (hT : aggOf P T = some true) (hs : szOf P T = some s)
    (hv : (cells.drop off).take s = l) (hlen : l.length = s) : Step P E kp n ops ⟨some d, .load T x, ty, ps, af, none⟩ st (st.put d (.p (.agg l))) :=
  S_pure _ rfl rfl hd fun a w φ Pub I hR => by
    have h := hx _ _ _ _ (hR x)
    unfold RA RP at h
    obtain ⟨b, o, e, hc⟩ := h
    have hc2 := RPc_take s (RPc_drop off hc)
    rw [hv] at hc2
    obtain ⟨vs, c1, c2, c3⟩ := RPc_vals hc2
    refine ⟨_, ?_, by unfold RA RP; exact ⟨_, rfl, c1⟩⟩
    simp only [execOp, e]
    rw [Sem.run_bind, run_loadN hT hs (by rw [RPs_length c1]; exact hlen) (fun j v hj => c3 j v hj)]; rfl
/-- A field of a struct that stands in a slot. -/
theorem S_field1 {f o s : Nat} {l : List AV} {v : AV} {pl : List (Nat × Nat)} {fs : Array Field} (hx : Gv (st.ev x) (.agg l)) (hp : plOf P T = some pl) (hi : pl[f]? = some (o, s))
    (hf : ∀ fs fd, P.underlying T = some (.struct fs) → fs[f]? = some fd → aggOf P fd.type = some false) (hv : l[o]? = some v) :
    Step P E kp n ops ⟨some d, .field T x f, ty, ps, af, none⟩ st (st.put d v) :=
  S_pure _ rfl rfl hd fun a w φ Pub I hR => by
    have h := hx _ _ _ _ (hR x)
    unfold RA at h
    obtain ⟨vs, e, h⟩ := h
    obtain ⟨fs, hu⟩ := struct_of hp
    obtain ⟨fd, h1, h2, h3⟩ := mapM_get hu hp hi
    obtain ⟨u, h4, h5⟩ := RAs_get h hv
    refine ⟨u, ?_, h5⟩
    simp only [execOp, e]
    rw [Sem.run_bind]
    simp [Instr.field, run_underlying hu, h1, asAgg, part, run_isAgg (hf fs fd hu h1), h2, h4]
/-- A part of several results. -/
theorem S_extract {i : Nat} {l : List AV} {v : AV} (hx : Gv (st.ev x) (.tup l)) (hv : l[i]? = some v) : Step P E kp n ops ⟨some d, .extract x i, ty, ps, af, none⟩ st (st.put d v) :=
  S_pure _ rfl rfl hd fun a w φ Pub I hR => by
    have h := hx _ _ _ _ (hR x)
    unfold RA at h
    obtain ⟨vs, e, h⟩ := h
    obtain ⟨u, h4, h5⟩ := RAs_get h hv
    exact ⟨u, by simp [execOp, e, Instr.extract, h4], h5⟩
end

/-! ### Variables and stores -/
/-- What a value's cells are. -/
def AV.cs : AV → List AV
  | .agg l => l
  | .p (.agg l) => l.map .p
  | x => [x]
/-- A value of one cell. -/
def AV.one : AV → Bool
  | .p (.v u) => u.oneCell'
  | .p (.pp _ _) => true
  | .p (.sl _ _) => true
  | .p (.fn _ _) => true
  | .own _ _ => true
  | .osl _ _ => true
  | .mref _ => true
  | .oss _ _ _ _ => true
  | _ => false
def allOne : List AV → Bool
  | [] => true
  | x :: xs => x.one && allOne xs
section
variable {φ : Ghost} {Pub : Nat → Nat → Prop} {w : World}
theorem one_R {x : AV} {u : Value} (h1 : x.one = true) (h : RA w Pub φ x u) : u.oneCell' = true := by
  cases x with
  | p q =>
    cases q with
    | v z => unfold RA RP at h; subst h; exact h1
    | pp cells off => unfold RA RP at h; obtain ⟨b, o, rfl, _⟩ := h; rfl
    | sl cells m => unfold RA RP at h; obtain ⟨b, o, rfl, _⟩ := h; rfl
    | fn f caps => unfold RA RP at h; obtain ⟨b, rfl, _⟩ := h; rfl
    | _ => cases h1
  | own r off => unfold RA at h; obtain ⟨b, o, _, rfl⟩ := h; rfl
  | osl r m =>
    unfold RA at h
    rcases h with ⟨b, o, _, rfl, _⟩ | ⟨_, _, rfl⟩ <;> rfl
  | mref r => unfold RA at h; obtain ⟨b, _, rfl⟩ := h; rfl
  | oss r k m s =>
    unfold RA at h
    rcases h with ⟨b, c, o, c', _, rfl, _⟩ | ⟨_, _, _, rfl⟩ <;> rfl
  | _ => cases h1
theorem allOne_R : ∀ {l : List AV} {us : List Value}, allOne l = true → RAs w Pub φ l us → ∀ u ∈ us, u.oneCell' = true
  | [], us, _, h, u, hu => by unfold RAs at h; subst h; cases hu
  | x :: xs, us, h1, h, u, hu => by
    unfold RAs at h
    obtain ⟨v, vs, rfl, h2, h3⟩ := h
    simp only [allOne, Bool.and_eq_true] at h1
    rcases List.mem_cons.1 hu with rfl | hu
    · exact one_R h1.1 h2
    · exact allOne_R h1.2 h3 u hu
theorem RAs_p : ∀ {l : List PV} {us : List Value}, RPs w Pub l us → RAs w Pub φ (l.map .p) us
  | [], us, h => by unfold RPs at h; simp only [List.map_nil]; unfold RAs; exact h
  | x :: xs, us, h => by
    unfold RPs at h
    obtain ⟨v, vs, rfl, h2, h3⟩ := h
    rw [List.map_cons]; unfold RAs
    exact ⟨v, vs, rfl, by unfold RA; exact h2, RAs_p h3⟩
theorem oneCell_cells {u : Value} (h : u.oneCell' = true) : u.cells = #[u] := by cases u <;> first | rfl | cases h
theorem cs_R {x : AV} {u : Value} (h1 : allOne x.cs = true) (h : RA w Pub φ x u) : RAs w Pub φ x.cs u.cells.toList ∧ ∀ v ∈ u.cells.toList, v.oneCell' = true := by
  have single : ∀ y : AV, y.one = true → RA w Pub φ y u → RAs w Pub φ [y] u.cells.toList ∧ ∀ v ∈ u.cells.toList, v.oneCell' = true := fun y hy hR => by
    have h2 := one_R hy hR
    rw [oneCell_cells h2]
    refine ⟨by unfold RAs; exact ⟨u, [], rfl, hR, by unfold RAs; rfl⟩, fun v hv => ?_⟩
    simp at hv; subst hv; exact h2
  cases x with
  | agg l =>
    unfold RA at h
    obtain ⟨vs, rfl, h⟩ := h
    exact ⟨h, allOne_R h1 h⟩
  | p q =>
    cases q with
    | agg l =>
      unfold RA RP at h
      obtain ⟨vs, rfl, h⟩ := h
      have h3 : RAs w Pub φ (l.map .p) vs := RAs_p h
      exact ⟨h3, allOne_R h1 h3⟩
    | _ => exact single _ (by simpa [AV.cs, allOne] using h1) h
  | _ => exact single _ (by simpa [AV.cs, allOne] using h1) h
theorem RAs_vals : ∀ (vs : List Value), RAs w Pub φ (vs.map fun v => .p (.v v)) vs
  | [] => by simp only [List.map_nil]; unfold RAs; rfl
  | v :: vs => by
    rw [List.map_cons]; unfold RAs
    exact ⟨v, vs, rfl, by unfold RA RP; rfl, RAs_vals vs⟩
end
def boxV (vs : List Value) : List AV := vs.map fun v => .p (.v v)

/-- A new variable, at its zero value. -/
theorem S_alloc {T : TypeId} {z : List Value} (r : Nat) (hz : zeOf P T = some z) (h1 : z.all (·.oneCell') = true) (hf : st.free kp r = true) (hd : Nat.blt d n = true) :
    Step P E kp n ops ⟨some d, .alloc T, ty, ps, af, none⟩ st ⟨(d, .own r 0) :: st.slots, (r, .box (boxV z) T) :: st.heap⟩ := by
  refine Step.val rfl fun a w ⟨φ, Pub, I, h0, hn, hs⟩ => ?_
  obtain ⟨v, hv, hc⟩ := run_zeroCells hz w
  obtain ⟨f1, f2, f3, f4⟩ := free_split hf
  have I' := I.alloc f1 f2 f4 (.cells z.toArray T) 1 (ob := .box (boxV z) T) ⟨w.heap.size, z.toArray, if_pos rfl, heap_alloc_new w _, RAs_vals z, fun u hu => by
    rw [List.all_eq_true] at h1; exact h1 u (by simpa using hu), fun i hp => by have := I.publ _ _ hp; omega⟩
  refine ⟨.pointer (some ⟨w.heap.size, 0, none⟩), w.alloc (.cells z.toArray T), ?_, Sat.put I' h0 hn (fun s => RA_alloc I (look_sHas f3) 1 (hs s)) hd (by unfold RA; exact ⟨_, _, if_pos rfl, rfl⟩)⟩
  simp only [execOp, Instr.alloc]
  simp [Sem.run_bind, hv, newVar, newRow, hc, newObj, Sem.run]
/-- A new variable with a value. -/
theorem S_box {T : TypeId} {x : Operand} {y : AV} (r : Nat) (hx : Gv (st.ev x) y) (h1 : allOne y.cs = true) (hy : hasL r y.cs = false) (hf : st.free kp r = true) (hd : Nat.blt d n = true) :
    Step P E kp n ops ⟨some d, .box T x, ty, ps, af, none⟩ st ⟨(d, .own r 0) :: st.slots, (r, .box y.cs T) :: st.heap⟩ := by
  refine Step.val rfl fun a w ⟨φ, Pub, I, h0, hn, hs⟩ => ?_
  obtain ⟨f1, f2, f3, f4⟩ := free_split hf
  have hxR := hx _ _ _ _ (ev_R (h := st.heap) hs x)
  obtain ⟨c1, c2⟩ := cs_R h1 hxR
  have I' := I.alloc f1 f2 f4 (.cells (a.eval x).cells T) 1 (ob := .box y.cs T) ⟨w.heap.size, (a.eval x).cells, if_pos rfl, heap_alloc_new w _, RAs_alloc I hy 1 c1, c2, fun i hp => by have := I.publ _ _ hp; omega⟩
  refine ⟨.pointer (some ⟨w.heap.size, 0, none⟩), w.alloc (.cells (a.eval x).cells T), ?_, Sat.put I' h0 hn (fun s => RA_alloc I (look_sHas f3) 1 (hs s)) hd (by unfold RA; exact ⟨_, _, if_pos rfl, rfl⟩)⟩
  simp [execOp, Instr.box, newVar, newRow, newObj, Sem.run]

theorem run_storeN {T : TypeId} {s : Nat} (hs : szOf P T = some s) {b off : Nat} {u : Value} {w : World} {cur : Array Value} {t : TypeId} {fr : Nat × Nat} (hb : w.heap[b]? = some (.cells cur t fr)) (hfr : FrOk t cur.size fr)
    (hl : u.cells.toList.length = s) (hin : off + s ≤ cur.size) (h1 : ∀ v ∈ u.cells.toList, v.oneCell' = true) :
    (Instr.storeAt T (.pointer (some ⟨b, off, none⟩)) u).run P w = .ok () (w.setCells b off u.cells.toList) := by
  have hst := run_storeCells_cells (P := P) b off u.cells.toList 0 w (fun j hj => by
    rw [cell_of_row w b _ cur t fr hb, Array.getElem?_eq_getElem (by omega)]; rfl) (fun j hj => by
    unfold World.frozen?; simp only [hb]
    rcases hfr with h0 | h0
    · subst h0; simp
    · have := h0.1; simp; omega) h1
  simp only [Nat.add_zero] at hst
  rw [Array.length_toList] at hl
  simp [Instr.storeAt, Instr.sureAddr, storeVar, run_sizeOf hs, hl, hst]
/-- A store into a variable of the call's own. -/
theorem S_storeBox {T : TypeId} {x y : Operand} {r off s : Nat} {cells : List AV} {t : TypeId} {v : AV} (hx : Gv (st.ev x) (.own r off)) (hy : Gv (st.ev y) v) (hs : szOf P T = some s) (hl : st.ob r = .box cells t)
    (h1 : allOne v.cs = true) (hlen : v.cs.length = s) (hin : off + s ≤ cells.length) : Step P E kp n ops ⟨none, .store T x y, ty, ps, af, none⟩ st (st.set r (.box (putL cells off v.cs) t)) := by
  refine Step.skip rfl fun a w ⟨φ, Pub, I, h0, hn, hsl⟩ => ?_
  have h := hx _ _ _ _ (ev_R (h := st.heap) hsl x)
  unfold RA at h
  obtain ⟨b, c, e0, e⟩ := h
  obtain ⟨c1, c2⟩ := cs_R h1 (hy _ _ _ _ (ev_R (h := st.heap) hsl y))
  have k := I.own r
  have hl' : look OB.dead st.heap r = .box cells t := hl
  rw [hl'] at k
  obtain ⟨b', cur, k1, k2, k3, k4, k5⟩ := k
  rw [e0] at k1; cases k1
  have hlc := RAs_length k3
  rw [Array.length_toList] at hlc
  obtain ⟨I', H⟩ := I.storeBox hl' e0 (o := off) c1 c2
  refine ⟨w.setCells b off (a.eval y).cells.toList, ?_, φ, Pub, I', h0, hn, fun q => RA_mono H _ _ (fun _ _ => rfl) (hsl q)⟩
  simp only [execOp, e]
  rw [Sem.run_bind, run_storeN hs k2 (.inl rfl) (by rw [RAs_length c1]; exact hlen) (by omega) c2]; rfl
/-- A store into a row of the call's own. -/
theorem S_storeRow {T : TypeId} {x y : Operand} {r off s sz pub : Nat} {cells qs : List PV} {t : TypeId} {v : AV} (hx : Gv (st.ev x) (.own r off)) (hy : Gv (st.ev y) v) (hs : szOf P T = some s) (hl : st.ob r = .row cells t sz pub)
    (h1 : allOne v.cs = true) (hq : AV.toPs v.cs = some qs) (hlen : qs.length = s) (hpub : pub ≤ off) (hin : off + s ≤ cells.length) : Step P E kp n ops ⟨none, .store T x y, ty, ps, af, none⟩ st (st.set r (.row (putL cells off qs) t sz pub)) := by
  refine Step.skip rfl fun a w ⟨φ, Pub, I, h0, hn, hsl⟩ => ?_
  have h := hx _ _ _ _ (ev_R (h := st.heap) hsl x)
  unfold RA at h
  obtain ⟨b, c, e0, e⟩ := h
  obtain ⟨c1, c2⟩ := cs_R h1 (hy _ _ _ _ (ev_R (h := st.heap) hsl y))
  have c1' := toPs_R hq c1
  have k := I.own r
  have hl' : look OB.dead st.heap r = .row cells t sz pub := hl
  rw [hl'] at k
  rcases k with ⟨k0, _⟩ | ⟨b', c', cur, fr, k1, ⟨k2, k2'⟩, k3, k4, k5, k6, k7, k8⟩
  · rw [e0] at k0; cases k0
  rw [e0] at k1; cases k1
  obtain ⟨I', H⟩ := I.storeRow hl' e0 c1' c2 hpub (by omega)
  refine ⟨w.setCells b off (a.eval y).cells.toList, ?_, φ, Pub, I', h0, hn, fun q => RA_mono H _ _ (fun _ _ => rfl) (hsl q)⟩
  simp only [execOp, e]
  rw [Sem.run_bind, run_storeN hs k2 k2' (by rw [RPs_length c1']; exact hlen) (by omega) c2]; rfl
section
variable {T : TypeId} {x y : Operand} {r off s : Nat} {cells : List AV} {t : TypeId} (hx : Gv (st.ev x) (.own r off)) (hs : szOf P T = some s) (hl : st.ob r = .box cells t)
include hx hs hl
end
section
variable {T : TypeId} {x : Operand} (r : Nat) (hf : st.free kp r = true) (hd : Nat.blt d n = true)
include hf hd
end
end
end Go.Proofs.YtcebndkiagbddaaGreatDoor

/- Code over values without addresses: regions in order, branches, blocks, loops, calls, a function's contract. It names no function of the program. -/
namespace Go.Proofs.YtcebndkiagbddaaGreatDoor
open Go.RowKit
set_option linter.unusedVariables false
set_option linter.unusedSimpArgs false

section
variable {P : Program} {E : Env} {kp : List Nat} {n : Nat} {ops : Array Oper} {st st' : AS} {Q : Exit → Act → World → Prop}

/-- Every frame and world that meets st meets st'. -/
def Wk (E : Env) (kp : List Nat) (n : Nat) (st st' : AS) : Prop := ∀ a w, Sat E kp n st a w → Sat E kp n st' a w
theorem Wk.trans {s1 s2 s3 : AS} (h : Wk E kp n s1 s2) (k : Wk E kp n s2 s3) : Wk E kp n s1 s3 := fun a w hs => k a w (h a w hs)

def To (E : Env) (kp : List Nat) (n : Nat) (Q : Exit → Act → World → Prop) (e : Exit) (st : AS) : Prop := ∀ a w, Sat E kp n st a w → Q e a w
def AO (P : Program) (E : Env) (kp : List Nat) (n : Nat) (ops : Array Oper) (Q : Exit → Act → World → Prop) (rest : List Oper) (st : AS) : Prop := ∀ a w, Sat E kp n st a w → wpList P ops Q rest a w
def AW (P : Program) (E : Env) (kp : List Nat) (n : Nat) (c : Code) (Q : Exit → Act → World → Prop) (st : AS) : Prop := ∀ a w, Sat E kp n st a w → c.wp P Q a w

theorem AO.step {o : Oper} {rest : List Oper} (h : Step P E kp n ops o st st') (k : AO P E kp n ops Q rest st') : AO P E kp n ops Q (o :: rest) st :=
  fun a w hs => wpList_step fun K hK => h a w K Q hs fun a' w' hs' => hK _ _ (k a' w' hs')
theorem AO.nil (h : To E kp n Q .normal st) : AO P E kp n ops Q [] st := fun a w hs => wpList_nil (h a w hs)
theorem AO.wk {rest : List Oper} (h : Wk E kp n st st') (k : AO P E kp n ops Q rest st') : AO P E kp n ops Q rest st := fun a w hs => k a w (h a w hs)
theorem AW.wk {c : Code} (h : Wk E kp n st st') (k : AW P E kp n c Q st') : AW P E kp n c Q st := fun a w hs => k a w (h a w hs)
theorem To.wk {e : Exit} (h : Wk E kp n st st') (k : To E kp n Q e st') : To E kp n Q e st := fun a w hs => k a w (h a w hs)
theorem AW.region {id : Nat} {l : List Oper} (h : AO P E kp n l.toArray Q l st) : AW P E kp n (.region id l.toArray false) Q st := fun a w hs => wp_region_lit (h a w hs)
theorem AW.seq {x y : Code} (h : AW P E kp n x (Exit.then (y.wp P Q) Q) st) : AW P E kp n (.seq x y) Q st := fun a w hs => wp_seq (h a w hs)
theorem AW.skip (h : To E kp n Q .normal st) : AW P E kp n .skip Q st := fun a w hs => wp_skip (h a w hs)
theorem AW.ret (h : To E kp n Q .ret st) : AW P E kp n .ret Q st := fun a w hs => wp_ret (h a w hs)
theorem AW.exit {id : Nat} (h : To E kp n Q (.exit id) st) : AW P E kp n (.exit id) Q st := fun a w hs => wp_exit (h a w hs)
theorem AW.block {id : Nat} {c : Code} (h : AW P E kp n c (Exit.inBlock id Q) st) : AW P E kp n (.block id c) Q st := fun a w hs => wp_block (h a w hs)
theorem AW.cond {c : Operand} {x y : Code} {g : Bool} (hc : Gv (st.ev c) (.p (.v (.bool g)))) (h1 : g = true → AW P E kp n x Q st) (h2 : g = false → AW P E kp n y Q st) : AW P E kp n (.cond c x y) Q st := by
  intro a w hs
  have hs' := hs
  obtain ⟨φ, Pub, I, h0, hn, hsl⟩ := hs
  have e := hc.v (ev_R (h := st.heap) hsl c)
  exact wp_cond_split e (fun hg => h1 hg a w hs') (fun hg => h2 hg a w hs')
/-- What comes behind. -/
theorem To.seq {y : Code} (h : AW P E kp n y Q st) : To E kp n (Exit.then (y.wp P Q) Q) .normal st := h
theorem To.then_normal {K : Act → World → Prop} (h : To E kp n (fun _ => K) .normal st) : To E kp n (Exit.then K Q) .normal st := h
theorem To.block_exit {id : Nat} (h : To E kp n Q .normal st) : To E kp n (Exit.inBlock id Q) (.exit id) st := fun a w hs => by
  show (if id = id then Q .normal a w else Q (.exit id) a w); rw [if_pos rfl]; exact h a w hs
theorem To.block_exit_ne {id id' : Nat} (hne : id' ≠ id) (h : To E kp n Q (.exit id') st) : To E kp n (Exit.inBlock id Q) (.exit id') st := fun a w hs => by
  show (if id' = id then Q .normal a w else Q (.exit id') a w); rw [if_neg hne]; exact h a w hs

/-- **A loop**: what its states at a round's head are (I, over some data x), and a measure. -/
theorem AW.loop {α : Type} {c : Code} (I : α → AS) (ok : α → Prop) (μ : α → Nat) (x0 : α) (h0 : ok x0) (hst : Wk E kp n st (I x0))
    (round : ∀ x, ok x → ∀ K : Act → World → Prop, (∀ y, ok y → μ y < μ x → To E kp n (fun _ => K) .normal (I y)) → AW P E kp n c (Exit.then K Q) (I x)) : AW P E kp n (.loop c) Q st := by
  intro a w hs
  refine wp_loop_ghost (fun m a w => ∃ x, μ x = m ∧ ok x ∧ Sat E kp n (I x) a w) (μ x0) ⟨x0, rfl, h0, hst a w hs⟩ ?_
  rintro m a w ⟨x, rfl, hx, hsx⟩
  exact round x hx _ (fun y hy hlt a' w' hs' => ⟨μ y, hlt, y, rfl, hy, hs'⟩) a w hsx

/-! ### Contracts -/
/-- **The contract of a function**: called on args, beside the blocks hin of the caller's, it gives res, and the blocks hout; nothing else that was there is changed. -/
def Ev (P : Program) (f : FuncId) (hin : List (Nat × OB)) (args : List AV) (hout : List (Nat × OB)) (res : AV) : Prop :=
  ∀ (E : Env) (φ : Ghost) (Pub : Nat → Nat → Prop) (w : World) (vs : List Value), E.w0 = w → E.φ0 = φ → Inv E (hin.map (·.1)) φ Pub hin w → RAs w Pub φ args vs →
    Calls P f vs.toArray w fun e w' => ∃ v φ' Pub', e = .returned v ∧ Inv E (hin.map (·.1)) φ' Pub' hout w' ∧ RA w' Pub' φ' res v

def slotsOf : Nat → List AV → List (Nat × AV)
  | _, [] => []
  | i, x :: xs => (i, x) :: slotsOf (i + 1) xs
theorem slotsOf_R {w : World} {Pub : Nat → Nat → Prop} {φ : Ghost} : ∀ {l : List AV} {vs : List Value} (i : Nat) (A : Array Value), RAs w Pub φ l vs → (∀ j u, vs[j]? = some u → A[i + j]? = some u) → ∀ s, RA w Pub φ (look .any (slotsOf i l) s) (A.getD s undef)
  | [], vs, i, A, _, _, s => by simp [slotsOf, look, RA]
  | x :: xs, vs, i, A, h, hA, s => by
    unfold RAs at h
    obtain ⟨u, us, rfl, h1, h2⟩ := h
    simp only [slotsOf, look_cons]
    by_cases e : i = s
    · subst e
      rw [if_pos rfl]
      have := hA 0 u rfl
      rw [Nat.add_zero] at this
      rw [Array.getD_eq_getD_getElem?, this]; exact h1
    · rw [if_neg e]
      exact slotsOf_R (i + 1) A h2 (fun j v hj => by have := hA (j + 1) v (by simpa using hj); rwa [show i + (j + 1) = i + 1 + j from by omega] at this) s

/-- A result is read. -/
def rvRun (tmps : Array Value) : ResultVar → Sem Value
  | .tmp t => pure (tmps.getD t undef)
  | .cell a t => do loadVar t (← asAddr (tmps.getD a undef))
theorem results_rv (fn : Func) (tmps : Array Value) : results fn tmps = (do let vs ← fn.results.mapM (rvRun tmps); pure (if h : vs.size = 1 then vs[0] else .tuple vs)) := by
  unfold results
  congr 1
/-- What a result reads as, at the function's end. -/
def ResOk (P : Program) (st : AS) (rv : ResultVar) (x : AV) : Prop :=
  ∀ (E : Env) (kp : List Nat) (a : Act) (w : World) (φ : Ghost) (Pub : Nat → Nat → Prop), Inv E kp φ Pub st.heap w → (∀ s, RA w Pub φ (look .any st.slots s) (a.tmps.getD s undef)) →
    ∃ v, (rvRun a.tmps rv).run P w = .ok v w ∧ RA w Pub φ x v
theorem ResOk.tmp {t : Nat} {x : AV} (h : Gv (look .any st.slots t) x) : ResOk P st (.tmp t) x := fun E kp a w φ Pub I hs => ⟨_, rfl, h _ _ _ _ (hs t)⟩
theorem loadAt_var {T : TypeId} {ad : Addr} {w : World} {v : Value} (h : (Instr.loadAt T (.pointer (some ad))).run P w = .ok v w) : (do loadVar T (← asAddr (.pointer (some ad))) : Sem Value).run P w = .ok v w := by
  simpa [Instr.loadAt, Instr.sureAddr, asAddr] using h
theorem ResOk.box1 {c r off : Nat} {T t : TypeId} {cells : List AV} {x y : AV} (hc : Gv (look .any st.slots c) (.own r off)) (hT : aggOf P T = some false) (hl : st.ob r = .box cells t) (hv : cells[off]? = some x) (hy : Gv x y) : ResOk P st (.cell c T) y := by
  intro E kp a w φ Pub I hs
  have h := hc _ _ _ _ (hs c)
  unfold RA at h
  obtain ⟨b, cc, e0, e⟩ := h
  obtain ⟨cur, c1, c2, _⟩ := own_cell_box I hl e0
  obtain ⟨u, hu, hRv⟩ := RAs_get c2 hv
  refine ⟨u, ?_, hy _ _ _ _ hRv⟩
  simp only [rvRun, e]
  exact loadAt_var (run_load1 hT (by rw [cell_of_row w b off cur t (0, 0) c1]; simpa using hu))
theorem ResOk.boxN {c r off s : Nat} {T t : TypeId} {cells : List AV} {l : List AV} {y : AV} (hc : Gv (look .any st.slots c) (.own r off)) (hT : aggOf P T = some true) (hs' : szOf P T = some s) (hl : st.ob r = .box cells t) (hv : (cells.drop off).take s = l) (hlen : l.length = s)
    (hy : Gv (.agg l) y) : ResOk P st (.cell c T) y := by
  intro E kp a w φ Pub I hs
  have h := hc _ _ _ _ (hs c)
  unfold RA at h
  obtain ⟨b, cc, e0, e⟩ := h
  obtain ⟨cur, c1, c2, _⟩ := own_cell_box I hl e0
  have c3 := RAs_take s (RAs_drop off c2)
  rw [hv] at c3
  refine ⟨_, ?_, hy _ _ _ _ (by unfold RA; exact ⟨_, rfl, c3⟩)⟩
  simp only [rvRun, e]
  exact loadAt_var (run_loadN hT hs' (by rw [RAs_length c3]; exact hlen) (fun j v hj => by
      rw [cell_of_row w b _ cur t (0, 0) c1]
      rw [List.getElem?_take] at hj
      split at hj
      · rw [List.getElem?_drop] at hj; simpa using hj
      · cases hj))

/-- Blocks that are not wanted are let go of. -/
def subH (h h' : List (Nat × OB)) : Prop := ∀ r, look OB.dead h' r = look OB.dead h r ∨ look OB.dead h' r = .dead
theorem Inv.sub {φ : Ghost} {Pub : Nat → Nat → Prop} {h h' : List (Nat × OB)} {w : World} (I : Inv E kp φ Pub h w) (hs : subH h h') : Inv E kp φ Pub h' w := by
  have hal : ∀ q, (look OB.dead h' q).alive = true → look OB.dead h' q = look OB.dead h q ∧ (look OB.dead h q).alive = true := fun q hq => by
    rcases hs q with e | e
    · exact ⟨e, by rw [← e]; exact hq⟩
    · rw [e] at hq; cases hq
  exact I.next rfl rfl rfl (Nat.le_refl _) (fun _ _ _ => rfl) (Adv.refl _ _) (fun _ _ hp => .inl hp) I.publ (fun q hq => by rw [(hal q hq).1]; exact I.own q)
    (fun q b c hq => I.mine q b c (hal q hq).2) (fun q q' b c c' hq hq' => I.inj q q' b c c' (hal q hq).2 (hal q' hq').2) (fun _ _ => rfl)

/-- The post of a function's body. -/
def EvPost (E : Env) (kp : List Nat) (hout : List (Nat × OB)) (res : AV) (e : Ending) (w' : World) : Prop := ∃ v φ' Pub', e = .returned v ∧ Inv E kp φ' Pub' hout w' ∧ RA w' Pub' φ' res v
theorem Ev.intro {f : FuncId} {fn : Func} {c : Code} {hin hout : List (Nat × OB)} {args : List AV} {res : AV} (hf : P.funcs[f]? = some fn) (hb : fn.body = some c) {m : Nat} (hm : fn.ntmps = m) (hk : args.length ≤ m)
    (h : ∀ E : Env, AW P E (hin.map (·.1)) m c (bodyPost P fn (EvPost E (hin.map (·.1)) hout res)) ⟨slotsOf 0 args, hin⟩) : Ev P f hin args hout res := by
  intro E φ Pub w vs hw hφ I hR
  subst hm
  refine calls_of_wp hf hb (h E _ w ⟨φ, Pub, I, rfl, ?_, ?_⟩)
  · have := RAs_length hR
    simp; omega
  · refine slotsOf_R 0 _ hR (fun j u hj => ?_)
    have hlt := (List.getElem?_eq_some_iff.1 hj).1
    rw [Nat.zero_add, Array.getElem?_append_left (by simpa using hlt)]
    simpa using hj
theorem To.ret_normal {fn : Func} {R : Ending → World → Prop} (h : To E kp n (bodyPost P fn R) .ret st) : To E kp n (bodyPost P fn R) .normal st := h

/-- May a function be called by its number? -/
def callable (P : Program) (f : FuncId) : Bool :=
  match P.funcs[f]? with
  | some fn => fn.body.isSome && !(fn.name == "runtime.NumGoroutine")
  | none => false
theorem run_callFunc {f : FuncId} (hc : callable P f = true) (args : Array Value) (w : World) : (callFunc f args).run P w = .ok (.enter f args) w := by
  unfold callable at hc
  cases hf : P.funcs[f]? with
  | none => rw [hf] at hc; cases hc
  | some fn =>
    rw [hf] at hc
    simp only [Bool.and_eq_true, Bool.not_eq_true'] at hc
    obtain ⟨h1, h2⟩ := hc
    have h3 : fn.body.isNone = false := by cases hb : fn.body <;> simp_all
    have h4 : ¬ fn.name = "runtime.NumGoroutine" := fun e => by rw [e] at h2; simp at h2
    have h5 : ¬ fn.body = none := fun e => by rw [e] at h1; cases h1
    simp [callFunc, program, Sem.run, hf, h4, h5]

theorem evs_R {w : World} {Pub : Nat → Nat → Prop} {φ : Ghost} {a : Act} (hs : ∀ s, RA w Pub φ (look .any st.slots s) (a.tmps.getD s undef)) : ∀ (l : List Operand), RAs w Pub φ (l.map st.ev) (l.map a.eval)
  | [] => by simp only [List.map_nil]; unfold RAs; rfl
  | x :: xs => by
    rw [List.map_cons, List.map_cons]; unfold RAs
    exact ⟨_, _, rfl, ev_R (h := st.heap) hs x, evs_R hs xs⟩

/-- The names of some blocks are free. -/
def freeAll (st : AS) (kp : List Nat) : List (Nat × OB) → Bool
  | [] => true
  | (r, _) :: h => st.free kp r && freeAll st kp h
mutual
def AV.inH (h : List (Nat × OB)) : AV → Bool
  | .p _ => true
  | .agg l => inHL h l
  | .tup l => inHL h l
  | .own q _ => (look OB.dead h q).alive
  | .osl q _ => (look OB.dead h q).alive
  | .mref q => (look OB.dead h q).alive
  | .oss q _ _ _ => (look OB.dead h q).alive
  | .cnd _ x => AV.inH h x
  | .any => true
def inHL (h : List (Nat × OB)) : List AV → Bool
  | [] => true
  | x :: xs => AV.inH h x && inHL h xs
end
mutual
theorem inH_has {h : List (Nat × OB)} {r : Nat} : ∀ (x : AV), x.inH h = true → x.has r = true → (look OB.dead h r).alive = true
  | .p _, _, hr => by unfold AV.has at hr; cases hr
  | .agg l, hi, hr => by unfold AV.has at hr; unfold AV.inH at hi; exact inHL_has l hi hr
  | .tup l, hi, hr => by unfold AV.has at hr; unfold AV.inH at hi; exact inHL_has l hi hr
  | .own q _, hi, hr => by unfold AV.has at hr; unfold AV.inH at hi; rw [← Nat.eq_of_beq_eq_true hr]; exact hi
  | .osl q _, hi, hr => by unfold AV.has at hr; unfold AV.inH at hi; rw [← Nat.eq_of_beq_eq_true hr]; exact hi
  | .mref q, hi, hr => by unfold AV.has at hr; unfold AV.inH at hi; rw [← Nat.eq_of_beq_eq_true hr]; exact hi
  | .oss q _ _ _, hi, hr => by unfold AV.has at hr; unfold AV.inH at hi; rw [← Nat.eq_of_beq_eq_true hr]; exact hi
  | .cnd _ x, hi, hr => by unfold AV.has at hr; unfold AV.inH at hi; exact inH_has x hi hr
  | .any, _, hr => by unfold AV.has at hr; cases hr
theorem inHL_has {h : List (Nat × OB)} {r : Nat} : ∀ (l : List AV), inHL h l = true → hasL r l = true → (look OB.dead h r).alive = true
  | [], _, hr => by unfold hasL at hr; cases hr
  | x :: xs, hi, hr => by
    unfold hasL at hr; unfold inHL at hi
    simp only [Bool.or_eq_true, Bool.and_eq_true] at hr hi
    rcases hr with hr | hr
    · exact inH_has x hi.1 hr
    · exact inHL_has xs hi.2 hr
end
/-- The blocks speak of one another alone, and none is dead. -/
def closedH (h : List (Nat × OB)) : List (Nat × OB) → Bool
  | [] => true
  | (_, .box cells _) :: r => inHL h cells && closedH h r
  | (_, .row ..) :: r => closedH h r
  | (_, .obj _) :: r => closedH h r
  | (_, .it m _ _ _) :: r => (look OB.dead h m).alive && closedH h r
  | (_, .ra _ _ _ ns) :: r => (ns.all fun q => (look OB.dead h q).alive) && closedH h r
  | (_, .dead) :: _ => false
end
end Go.Proofs.YtcebndkiagbddaaGreatDoor

/- One operation, over values without addresses: slices, appends, struct and slice literals, conversions, lengths; what may be forgotten or shared on the way. They name no function of the program. -/
namespace Go.Proofs.YtcebndkiagbddaaGreatDoor
open Go.RowKit
set_option linter.unusedVariables false
set_option linter.unusedSimpArgs false

/-- A string; bytes. -/
abbrev strP (l : List UInt8) : PV := .v (.string ⟨l.toArray⟩)
abbrev b8P (c : UInt8) : PV := .v (.int .u8 (c.toNat : Int))
abbrev i64P (i : Int) : PV := .v (.int .i64 i)
abbrev boolP (b : Bool) : PV := .v (.bool b)
def bytesP (l : List UInt8) : PV := .sl (l.map b8P) l.length

section
variable {P : Program} {E : Env} {kp : List Nat} {n : Nat} {ops : Array Oper} {st st' : AS} {d : Nat} {ty : TypeId} {ps : String} {af : Array Edge}

theorem S_call_pure {b : Builtin} {args : Array Operand} {T : Array TypeId} (x : AV) (hd : Nat.blt d n = true)
    (h : ∀ (a : Act) (w : World) (φ : Ghost) (Pub : Nat → Nat → Prop), Inv E kp φ Pub st.heap w → (∀ y, RA w Pub φ (st.ev y) (a.eval y)) →
      ∃ u, (builtin b T ty (args.map fun | .const _ => true | _ => false) (args.map a.eval)).run P w = .ok (.value u) w ∧ RA w Pub φ x u) :
    Step P E kp n ops ⟨some d, .call { callee := .builtin b, args, argTypes := T }, ty, ps, af, none⟩ st (st.put d x) :=
  S_pure x rfl rfl hd fun a w φ Pub I hs => by
    obtain ⟨u, hr, hx⟩ := h a w φ Pub I hs
    refine ⟨u, ?_, hx⟩
    simp only [execOp, resolve, invoke, Sem.run_bind, Sem.run_pure, Result.andThen_ok]
    exact hr

section
variable {T : TypeId} {x : Operand} (hd : Nat.blt d n = true)
include hd
theorem S_lenSl {e s m : Nat} {cells : List PV} (hx : Gv (st.ev x) (.p (.sl cells m))) (hT : slOf P T = some (e, s)) : Step P E kp n ops ⟨some d, .call { callee := .builtin .len, args := #[x], argTypes := #[T] }, ty, ps, af, none⟩ st (st.put d (.p (i64P m))) :=
  S_call_pure _ hd fun a w φ Pub I hR => by
    have h := hx _ _ _ _ (hR x)
    unfold RA RP at h
    obtain ⟨ad, c, e1, _⟩ := h
    exact ⟨.int .i64 m, by simp [builtin, Builtin.len_, run_underlying (sl_of hT).1, e1, goInt], by simp [RA, RP]⟩
theorem S_lenNil {e s m c : Nat} {ad : Option Addr} (hx : Gv (st.ev x) (.p (.v (.slice ad m c)))) (hT : slOf P T = some (e, s)) : Step P E kp n ops ⟨some d, .call { callee := .builtin .len, args := #[x], argTypes := #[T] }, ty, ps, af, none⟩ st (st.put d (.p (i64P m))) :=
  S_call_pure _ hd fun a w φ Pub I hR => by
    have e1 := hx.v (hR x)
    exact ⟨.int .i64 m, by simp [builtin, Builtin.len_, run_underlying (sl_of hT).1, e1, goInt], by simp [RA, RP]⟩
theorem S_lenOsl {e s m r : Nat} (hx : Gv (st.ev x) (.osl r m)) (hT : slOf P T = some (e, s)) : Step P E kp n ops ⟨some d, .call { callee := .builtin .len, args := #[x], argTypes := #[T] }, ty, ps, af, none⟩ st (st.put d (.p (i64P m))) :=
  S_call_pure _ hd fun a w φ Pub I hR => by
    have h := hx _ _ _ _ (hR x)
    unfold RA at h
    rcases h with ⟨b, c, _, e1, _⟩ | ⟨_, rfl, e1⟩
    · exact ⟨.int .i64 m, by simp [builtin, Builtin.len_, run_underlying (sl_of hT).1, e1, goInt], by simp [RA, RP]⟩
    · exact ⟨.int .i64 0, by simp [builtin, Builtin.len_, run_underlying (sl_of hT).1, e1, goInt], by simp [RA, RP]⟩
theorem S_lenStr {l : List UInt8} (hx : Gv (st.ev x) (.p (strP l))) (hT : P.underlying T = some .string) : Step P E kp n ops ⟨some d, .call { callee := .builtin .len, args := #[x], argTypes := #[T] }, ty, ps, af, none⟩ st (st.put d (.p (i64P l.length))) :=
  S_call_pure _ hd fun a w φ Pub I hR => by
    have e1 := hx.v (hR x)
    have e2 : (⟨l.toArray⟩ : ByteArray).size = l.length := rfl
    exact ⟨.int .i64 l.length, by simp [builtin, Builtin.len_, run_underlying hT, e1, goInt, e2], by simp [RA, RP]⟩
end
section
variable {T1 T2 T3 T4 : TypeId} {x y : Operand} {i j : Int} (hx : Gv (st.ev x) (.p (i64P i))) (hy : Gv (st.ev y) (.p (i64P j))) (hd : Nat.blt d n = true)
include hx hy hd
theorem S_min (hty : P.underlying ty = some (.int .i64)) : Step P E kp n ops ⟨some d, .call { callee := .builtin .min, args := #[x, y], argTypes := #[T1, T2] }, ty, ps, af, none⟩ st (st.put d (.p (i64P (min i j)))) :=
  S_call_pure _ hd fun a w φ Pub I hR => by
    have e1 := hx.v (hR x)
    have e2 := hy.v (hR y)
    refine ⟨.int .i64 (min i j), ?_, by simp [RA, RP]⟩
    have e : min i j = if j < i then j else i := by split <;> omega
    rw [e]
    simp only [builtin, List.map_toArray, List.map_cons, List.map_nil, e1, e2]
    rfl
theorem S_max (hty : P.underlying ty = some (.int .i64)) : Step P E kp n ops ⟨some d, .call { callee := .builtin .max, args := #[x, y], argTypes := #[T1, T2] }, ty, ps, af, none⟩ st (st.put d (.p (i64P (max i j)))) :=
  S_call_pure _ hd fun a w φ Pub I hR => by
    have e1 := hx.v (hR x)
    have e2 := hy.v (hR y)
    refine ⟨.int .i64 (max i j), ?_, by simp [RA, RP]⟩
    have e : max i j = if i < j then j else i := by split <;> omega
    rw [e]
    simp only [builtin, List.map_toArray, List.map_cons, List.map_nil, e1, e2]
    rfl
end

/-! ### Conversions -/
theorem S_convInt {T T' : TypeId} {x : Operand} {k k' : IntKind} {dd : TypeDesc} {i r : Int} (hx : Gv (st.ev x) (.p (.v (.int k i)))) (h1 : P.underlying T = some dd) (h2 : P.underlying T' = some (.int k')) (hr : k'.wrap i = r) (hd : Nat.blt d n = true) :
    Step P E kp n ops ⟨some d, .convert T T' x, ty, ps, af, none⟩ st (st.put d (.p (.v (.int k' r)))) :=
  S_pure _ rfl rfl hd fun a w φ Pub I hR => by
    have e1 := hx.v (hR x)
    exact ⟨.int k' r, by simp [execOp, e1, convert, run_underlying h1, run_underlying h2, Conv.intToInt, hr], by simp [RA, RP]⟩
theorem S_convStr {T T' : TypeId} {x : Operand} {l : List UInt8} (hx : Gv (st.ev x) (.p (strP l))) (h1 : P.underlying T = some .string) (h2 : P.underlying T' = some .string) (hd : Nat.blt d n = true) :
    Step P E kp n ops ⟨some d, .convert T T' x, ty, ps, af, none⟩ st (st.put d (.p (strP l))) :=
  S_pure _ rfl rfl hd fun a w φ Pub I hR => by
    have e1 := hx.v (hR x)
    exact ⟨.string ⟨l.toArray⟩, by simp [execOp, e1, convert, run_underlying h1, run_underlying h2], by simp [RA, RP]⟩

theorem b8_vals {w : World} {Pub : Nat → Nat → Prop} : ∀ {l : List UInt8} {vs : List Value}, RPs w Pub (l.map b8P) vs → vs = l.map fun c => Value.int .u8 (c.toNat : Int)
  | [], vs, h => by simp only [List.map_nil] at h; unfold RPs at h; exact h
  | c :: l, vs, h => by
    rw [List.map_cons] at h; unfold RPs at h
    obtain ⟨u, us, rfl, h1, h2⟩ := h
    unfold RP at h1
    rw [b8_vals h2, h1]; rfl
theorem b8_RPs {w : World} {Pub : Nat → Nat → Prop} : ∀ (l : List UInt8), RPs w Pub (l.map b8P) (l.map fun c => Value.int .u8 (c.toNat : Int))
  | [] => by simp only [List.map_nil]; unfold RPs; rfl
  | c :: l => by rw [List.map_cons, List.map_cons]; unfold RPs; exact ⟨_, _, rfl, by unfold RP; rfl, b8_RPs l⟩
theorem fold_push (l : List UInt8) : ∀ (s : ByteArray), (l.map (fun b => (b.toNat : Int))).foldl (fun r n => r.push (UInt8.ofNat n.toNat)) s = ⟨s.data ++ l.toArray⟩ := by
  induction l with
  | nil => intro s; simp
  | cons b l ih => intro s; rw [List.map_cons, List.foldl_cons, ih]; simp [ByteArray.push]
theorem S_bytesStr {T T' e : TypeId} {x : Operand} {l : List UInt8} (hx : Gv (st.ev x) (.p (bytesP l))) (h1 : P.underlying T = some (.slice e)) (h3 : P.underlying e = some (.int .u8)) (h2 : P.underlying T' = some .string) (hd : Nat.blt d n = true) :
    Step P E kp n ops ⟨some d, .convert T T' x, ty, ps, af, none⟩ st (st.put d (.p (strP l))) :=
  S_pure _ rfl rfl hd fun a w φ Pub I hR => by
    have h := hx _ _ _ _ (hR x)
    unfold bytesP at h
    unfold RA RP at h
    obtain ⟨ad, c, e1, k1, k2, k3, k4⟩ := h
    refine ⟨.string ⟨l.toArray⟩, ?_, by simp [RA, RP]⟩
    have hrun : (convert T T' (a.eval x)).run P w = .ok (.string ⟨l.toArray⟩) w := by
      rw [e1, run_convert_bytes_string w T T' e ad l.length c h1 h3 h2]
      cases ad with
      | none =>
        have := k3 rfl
        have hl : l = [] := List.length_eq_zero_iff.1 (by omega)
        subst hl; rfl
      | some ad =>
        rcases k4 with k4 | ⟨b, o, e2, k4⟩
        · have hl : l = [] := List.length_eq_zero_iff.1 k4
          subst hl
          rw [run_bytesToString w ad _ c [] (by simp [loadCells, loadCellsFrom])]; rfl
        · injection e2 with e2; subst e2
          obtain ⟨vs, c1, c2, c3⟩ := RPc_vals k4
          have hv := b8_vals c1
          have hld : (loadCells ⟨b, o, none⟩ l.length).run P w = .ok ((l.map (fun b => (b.toNat : Int))).map (Value.int .u8)).toArray w := by
            have := run_loadCells_list (P := P) w ⟨b, o, none⟩ vs (fun j u hu => by rw [Addr.add_mid]; exact c3 j u hu)
            rw [hv] at this
            rw [List.map_map]
            simp only [List.length_map] at this
            exact this
          rw [run_bytesToString w _ l.length c _ hld, fold_push]
          simp [ByteArray.empty, ByteArray.emptyWithCapacity]
          rfl
    simp only [execOp]
    rw [Sem.run_bind, hrun]; rfl
theorem S_strBytes {T T' e : TypeId} {x : Operand} {l : List UInt8} (r : Nat) (hx : Gv (st.ev x) (.p (strP l))) (h1 : P.underlying T = some .string) (h2 : P.underlying T' = some (.slice e)) (h3 : P.underlying e = some (.int .u8)) (hlen : l.length ≤ 140737488355328) (he : e = 5)
    (hf : st.free kp r = true) (hd : Nat.blt d n = true) : Step P E kp n ops ⟨some d, .convert T T' x, ty, ps, af, none⟩ st ⟨(d, .osl r l.length) :: st.slots, (r, .row (l.map b8P) e 1 0) :: st.heap⟩ := by
  refine Step.val rfl fun a w ⟨φ, Pub, I, h0, hn, hs⟩ => ?_
  obtain ⟨f1, f2, f3, f4⟩ := free_split hf
  have e1 := hx.v (ev_R (h := st.heap) hs x)
  have hsz : (⟨l.toArray⟩ : ByteArray).size = l.length := rfl
  have hr := run_bytes_of_string (P := P) w T T' e ⟨l.toArray⟩ h1 h2 h3
  rw [hsz] at hr
  have hge := grownCap_ge w l.length 0 e
  have hcm : grownCap w l.length 0 e ≤ maxLen := grownCap_le_maxLen w l.length 0 e (by unfold maxLen; omega)
  have hbr : (bytesRow ⟨l.toArray⟩ (grownCap w l.length 0 e)).toList = (l.map fun c => Value.int .u8 (c.toNat : Int)) ++ List.replicate (grownCap w l.length 0 e - l.length) (.int .u8 0) := by
    simp [bytesRow, hsz]
  have hsize : (bytesRow ⟨l.toArray⟩ (grownCap w l.length 0 e)).size = grownCap w l.length 0 e := by
    rw [← Array.length_toList, hbr]; simp; omega
  have htk : (bytesRow ⟨l.toArray⟩ (grownCap w l.length 0 e)).toList.take (l.map b8P).length = l.map fun c => Value.int .u8 (c.toNat : Int) := by
    rw [hbr, show (l.map b8P).length = (l.map fun c => Value.int .u8 (c.toNat : Int)).length from by simp]; exact List.take_left
  have I' := I.drew.alloc f1 f2 f4 (.cells (bytesRow ⟨l.toArray⟩ (grownCap w l.length 0 e)) e ((bytesRow ⟨l.toArray⟩ (grownCap w l.length 0 e)).size, (bytesRow ⟨l.toArray⟩ (grownCap w l.length 0 e)).size + 1)) (grownCap w l.length 0 e)
    (ob := .row (l.map b8P) e 1 0) (.inr ⟨w.heap.size, _, _, _, if_pos rfl, ⟨heap_alloc_new w.drew _, .inr ⟨Nat.le_refl _, he⟩⟩, hcm, by rw [hsize, Nat.mul_one], by rw [hsize]; simpa using hge, by rw [htk]; exact b8_RPs l, by
      rw [htk]; intro u hu; rw [List.mem_map] at hu; obtain ⟨c, _, rfl⟩ := hu; rfl, fun i hp => by have := I.publ _ _ hp; exact absurd this (Nat.lt_irrefl _)⟩)
  refine ⟨_, _, ?_, Sat.put I' h0 hn (fun s => RA_mono ((adv_drew).trans (adv_alloc I.drew _)) _ _ (fun q hq => if_neg (fun e => by subst e; rw [look_sHas f3] at hq; cases hq)) (hs s)) hd (u := .slice (some ⟨w.heap.size, 0, none⟩) l.length (grownCap w l.length 0 e)) (by unfold RA; exact .inl ⟨_, _, if_pos rfl, rfl, hge⟩)⟩
  simp only [execOp, e1]
  rw [Sem.run_bind, hr]; rfl

/-! ### Parts of slices and strings -/
theorem RP_sliced {w : World} {Pub : Nat → Nat → Prop} {cells : List PV} {m l h s c : Nat} {a : Option Addr} (hk : RP w Pub (.sl cells m) (.slice a m c)) (h1 : l ≤ h) (h2 : h ≤ m) (hlen : m * s ≤ cells.length) :
    RP w Pub (.sl ((cells.drop (l * s)).take ((h - l) * s)) (h - l)) (sliced a l h c s) := by
  unfold RP at hk ⊢
  obtain ⟨a', c', e, k1, k2, k3, k4⟩ := hk
  injection e with e1 e2 e3
  subst e1 e3
  refine ⟨_, _, rfl, by omega, by omega, fun ha => ?_, ?_⟩
  · split at ha
    · have := k3 ha; omega
    · cases a with
      | none => have := k3 rfl; omega
      | some a => cases ha
  · rcases Nat.eq_zero_or_pos (h - l) with h0 | h0
    · exact .inl h0
    · rcases k4 with k4 | ⟨b, o, rfl, k4⟩
      · omega
      · refine .inr ⟨b, o + l * s, ?_, RPc_take _ (RPc_drop _ k4)⟩
        rw [if_neg (by omega)]
        simp [Addr.add_mid]
theorem sl_elem {T e : TypeId} {s : Nat} (hT : slOf P T = some (e, s)) : P.elem T = e := by
  unfold Program.elem; rw [(sl_of hT).1]
section
variable {T e : TypeId} {x : Operand} {s m : Nat} {cells : List PV} {k : IntKind} {i j : Int} (hx : Gv (st.ev x) (.p (.sl cells m))) (hT : slOf P T = some (e, s)) (hlen : m * s ≤ cells.length) (hd : Nat.blt d n = true)
include hx hT hlen hd
theorem S_slLo {lo : Operand} (hlo : Gv (st.ev lo) (.p (.v (.int k i)))) (h0 : 0 ≤ i) (h1 : i ≤ m) :
    Step P E kp n ops ⟨some d, .slice T x (some lo) none none, ty, ps, af, none⟩ st (st.put d (.p (.sl ((cells.drop (i.toNat * s)).take ((m - i.toNat) * s)) (m - i.toNat)))) :=
  S_pure _ rfl rfl hd fun a w φ Pub I hR => by
    have h := hx _ _ _ _ (hR x)
    unfold RA at h
    have h' := h
    unfold RP at h'
    obtain ⟨ad, c, e1, _⟩ := h'
    rw [e1] at h
    have hu := (sl_of hT).1
    have hel := sl_elem hT
    refine ⟨sliced ad i.toNat m c s, ?_, by unfold RA; exact RP_sliced h (by omega) (Nat.le_refl _) hlen⟩
    have hu' : P.underlying T = some (.slice (P.elem T)) := by rw [hel]; exact hu
    simp only [execOp, e1, Option.map_some, Option.map_none, hlo.v (hR lo)]
    rw [Sem.run_bind, run_sliceAt_slice (w := w) T _ _ _ _ hu', run_slice_l (w := w) T ad m c hu' k i h0 h1, hel, run_sizeOf (sl_of hT).2]; rfl
theorem S_slHi {hi : Operand} (hhi : Gv (st.ev hi) (.p (.v (.int k j)))) (h0 : 0 ≤ j) (h1 : j ≤ m) :
    Step P E kp n ops ⟨some d, .slice T x none (some hi) none, ty, ps, af, none⟩ st (st.put d (.p (.sl (cells.take (j.toNat * s)) j.toNat))) :=
  S_pure _ rfl rfl hd fun a w φ Pub I hR => by
    have h := hx _ _ _ _ (hR x)
    unfold RA at h
    have h' := h
    unfold RP at h'
    obtain ⟨ad, c, e1, hmc, _⟩ := h'
    rw [e1] at h
    have hu := (sl_of hT).1
    have hel := sl_elem hT
    have hu' : P.underlying T = some (.slice (P.elem T)) := by rw [hel]; exact hu
    refine ⟨sliced ad 0 j.toNat c s, ?_, ?_⟩
    · simp only [execOp, e1, Option.map_some, Option.map_none, hhi.v (hR hi)]
      rw [Sem.run_bind, run_sliceAt_slice (w := w) T _ _ _ _ hu', run_slice_h (w := w) T ad m c hu' k j h0 (by omega), hel, run_sizeOf (sl_of hT).2]; rfl
    · have := RP_sliced h (Nat.zero_le j.toNat) (by omega) hlen
      unfold RA; simpa using this
theorem S_slLoHi {lo hi : Operand} {k' : IntKind} (hlo : Gv (st.ev lo) (.p (.v (.int k i)))) (hhi : Gv (st.ev hi) (.p (.v (.int k' j)))) (h0 : 0 ≤ i) (h1 : i ≤ j) (h2 : j ≤ m) :
    Step P E kp n ops ⟨some d, .slice T x (some lo) (some hi) none, ty, ps, af, none⟩ st (st.put d (.p (.sl ((cells.drop (i.toNat * s)).take ((j.toNat - i.toNat) * s)) (j.toNat - i.toNat)))) :=
  S_pure _ rfl rfl hd fun a w φ Pub I hR => by
    have h := hx _ _ _ _ (hR x)
    unfold RA at h
    have h' := h
    unfold RP at h'
    obtain ⟨ad, c, e1, hmc, _⟩ := h'
    rw [e1] at h
    have hu := (sl_of hT).1
    have hel := sl_elem hT
    have hu' : P.underlying T = some (.slice (P.elem T)) := by rw [hel]; exact hu
    refine ⟨sliced ad i.toNat j.toNat c s, ?_, by unfold RA; exact RP_sliced h (by omega) (by omega) hlen⟩
    simp only [execOp, e1, Option.map_some, Option.map_none, hlo.v (hR lo), hhi.v (hR hi)]
    rw [Sem.run_bind, run_sliceAt_slice (w := w) T _ _ _ _ hu', run_slice_lh (w := w) T ad m c hu' k k' i j h0 h1 (by omega), hel, run_sizeOf (sl_of hT).2]; rfl
end
theorem b8_get {l : List UInt8} {i : Nat} (h : i < l.length) : (l.map b8P)[i]? = some (b8P (l.getD i 0)) := by
  rw [List.getElem?_map, List.getElem?_eq_getElem h, List.getD_eq_getElem?_getD, List.getElem?_eq_getElem h]; rfl
/-- A byte out of shared bytes. -/
theorem S_loadByte {T : TypeId} {x : Operand} {l : List UInt8} {off : Nat} (hd : Nat.blt d n = true) (hx : Gv (st.ev x) (.p (.pp (l.map b8P) off))) (hT : aggOf P T = some false) (h : off < l.length) :
    Step P E kp n ops ⟨some d, .load T x, ty, ps, af, none⟩ st (st.put d (.p (b8P (l.getD off 0)))) := S_loadPp hd hx hT (b8_get h)
theorem S_loadByteR {T t : TypeId} {x : Operand} {l : List UInt8} {r off sz pub : Nat} (hd : Nat.blt d n = true) (hx : Gv (st.ev x) (.own r off)) (hT : aggOf P T = some false) (hl : st.ob r = .row (l.map b8P) t sz pub) (h : off < l.length) :
    Step P E kp n ops ⟨some d, .load T x, ty, ps, af, none⟩ st (st.put d (.p (b8P (l.getD off 0)))) := S_loadRow hd hx hT hl (b8_get h)
/-! Parts of bytes. -/
section
variable {T e : TypeId} {x : Operand} {l : List UInt8} {k : IntKind} {i j : Int} {p q : Nat} (hx : Gv (st.ev x) (.p (bytesP l))) (hT : slOf P T = some (e, 1)) (hd : Nat.blt d n = true)
include hx hT hd
theorem S_byLo {lo : Operand} (hlo : Gv (st.ev lo) (.p (.v (.int k i)))) (hi : i.toNat = p) (h0 : 0 ≤ i) (h1 : i ≤ l.length) :
    Step P E kp n ops ⟨some d, .slice T x (some lo) none none, ty, ps, af, none⟩ st (st.put d (.p (bytesP (l.drop p)))) := by
  subst hi
  have h := S_slLo (st := st) (P := P) (E := E) (kp := kp) (n := n) (ops := ops) (ty := ty) (ps := ps) (af := af) hx hT (by simp) hd hlo h0 h1
  have e : PV.sl (((l.map b8P).drop (i.toNat * 1)).take ((l.length - i.toNat) * 1)) (l.length - i.toNat) = bytesP (l.drop i.toNat) := by
    unfold bytesP
    rw [Nat.mul_one, Nat.mul_one, List.take_of_length_le (by simp), List.length_drop, List.map_drop]
  rw [e] at h; exact h
theorem S_byHi {hi : Operand} (hhi : Gv (st.ev hi) (.p (.v (.int k j)))) (hj : j.toNat = q) (h0 : 0 ≤ j) (h1 : j ≤ l.length) :
    Step P E kp n ops ⟨some d, .slice T x none (some hi) none, ty, ps, af, none⟩ st (st.put d (.p (bytesP (l.take q)))) := by
  subst hj
  have h := S_slHi (st := st) (P := P) (E := E) (kp := kp) (n := n) (ops := ops) (ty := ty) (ps := ps) (af := af) hx hT (by simp) hd hhi h0 h1
  have e : PV.sl ((l.map b8P).take (j.toNat * 1)) j.toNat = bytesP (l.take j.toNat) := by
    unfold bytesP
    rw [Nat.mul_one, List.length_take, Nat.min_eq_left (by omega), List.map_take]
  rw [e] at h; exact h
theorem S_byLoHi {lo hi : Operand} {k' : IntKind} (hlo : Gv (st.ev lo) (.p (.v (.int k i)))) (hhi : Gv (st.ev hi) (.p (.v (.int k' j)))) (hi' : i.toNat = p) (hj : j.toNat = q) (h0 : 0 ≤ i) (h1 : i ≤ j) (h2 : j ≤ l.length) :
    Step P E kp n ops ⟨some d, .slice T x (some lo) (some hi) none, ty, ps, af, none⟩ st (st.put d (.p (bytesP ((l.drop p).take (q - p))))) := by
  subst hi' hj
  have h := S_slLoHi (st := st) (P := P) (E := E) (kp := kp) (n := n) (ops := ops) (ty := ty) (ps := ps) (af := af) hx hT (by simp) hd hlo hhi h0 h1 h2
  have e : PV.sl (((l.map b8P).drop (i.toNat * 1)).take ((j.toNat - i.toNat) * 1)) (j.toNat - i.toNat) = bytesP ((l.drop i.toNat).take (j.toNat - i.toNat)) := by
    unfold bytesP
    rw [Nat.mul_one, Nat.mul_one, List.length_take, List.length_drop, Nat.min_eq_left (by omega), List.map_take, List.map_drop]
  rw [e] at h; exact h
end
end
end Go.Proofs.YtcebndkiagbddaaGreatDoor

/- One operation, over values without addresses: literals of structs and slices, make, append, parts of strings and arrays; what may be forgotten, renamed or shared on the way. They name no function of the program. -/
namespace Go.Proofs.YtcebndkiagbddaaGreatDoor
open Go.RowKit
set_option linter.unusedVariables false
set_option linter.unusedSimpArgs false

section
variable {P : Program} {E : Env} {kp : List Nat} {n : Nat} {ops : Array Oper} {st st' : AS} {d : Nat} {ty : TypeId} {ps : String} {af : Array Edge}

/-! ### Parts of strings -/
theorem str_extract (l : List UInt8) (i j : Nat) : (⟨l.toArray⟩ : ByteArray).extract i j = ⟨((l.drop i).take (j - i)).toArray⟩ := by
  apply ByteArray.ext
  simp [ByteArray.data_extract, List.take_drop]
section
variable {T : TypeId} {x : Operand} {l : List UInt8} {k : IntKind} {i j : Int} (hx : Gv (st.ev x) (.p (strP l))) (hT : P.underlying T = some .string) (hd : Nat.blt d n = true)
include hx hT hd
theorem S_strLo {lo : Operand} (hlo : Gv (st.ev lo) (.p (.v (.int k i)))) (h0 : 0 ≤ i) (h1 : i ≤ l.length) :
    Step P E kp n ops ⟨some d, .slice T x (some lo) none none, ty, ps, af, none⟩ st (st.put d (.p (strP (l.drop i.toNat)))) :=
  S_pure _ rfl rfl hd fun a w φ Pub I hR => by
    refine ⟨.string ⟨(l.drop i.toNat).toArray⟩, ?_, by simp [RA, RP]⟩
    have hsz : (⟨l.toArray⟩ : ByteArray).size = l.length := rfl
    have he : (⟨l.toArray⟩ : ByteArray).extract i.toNat l.length = ⟨(l.drop i.toNat).toArray⟩ := by
      rw [str_extract, List.take_of_length_le (by simp)]
    simp only [execOp, hx.v (hR x), Option.map_some, Option.map_none, hlo.v (hR lo)]
    rw [Sem.run_bind, run_sliceAt_string (w := w) T _ _ _ _ hT]
    simp [Instr.slice, run_underlying hT, Instr.sliceBounds, run_sliceBound, h0, h1, hsz, he]
theorem S_strHi {hi : Operand} (hhi : Gv (st.ev hi) (.p (.v (.int k j)))) (h0 : 0 ≤ j) (h1 : j ≤ l.length) :
    Step P E kp n ops ⟨some d, .slice T x none (some hi) none, ty, ps, af, none⟩ st (st.put d (.p (strP (l.take j.toNat)))) :=
  S_pure _ rfl rfl hd fun a w φ Pub I hR => by
    refine ⟨.string ⟨(l.take j.toNat).toArray⟩, ?_, by simp [RA, RP]⟩
    have hsz : (⟨l.toArray⟩ : ByteArray).size = l.length := rfl
    have he : (⟨l.toArray⟩ : ByteArray).extract 0 j.toNat = ⟨(l.take j.toNat).toArray⟩ := by
      rw [str_extract]; simp
    simp only [execOp, hx.v (hR x), Option.map_some, Option.map_none, hhi.v (hR hi)]
    rw [Sem.run_bind, run_sliceAt_string (w := w) T _ _ _ _ hT]
    simp [Instr.slice, run_underlying hT, Instr.sliceBounds, run_sliceBound, h0, h1, hsz, he]
theorem S_strLoHi {lo hi : Operand} {k' : IntKind} (hlo : Gv (st.ev lo) (.p (.v (.int k i)))) (hhi : Gv (st.ev hi) (.p (.v (.int k' j)))) (h0 : 0 ≤ i) (h1 : i ≤ j) (h2 : j ≤ l.length) :
    Step P E kp n ops ⟨some d, .slice T x (some lo) (some hi) none, ty, ps, af, none⟩ st (st.put d (.p (strP ((l.drop i.toNat).take (j.toNat - i.toNat))))) :=
  S_pure _ rfl rfl hd fun a w φ Pub I hR => by
    refine ⟨.string ⟨((l.drop i.toNat).take (j.toNat - i.toNat)).toArray⟩, ?_, by simp [RA, RP]⟩
    have hsz : (⟨l.toArray⟩ : ByteArray).size = l.length := rfl
    have he := str_extract l i.toNat j.toNat
    have hj : 0 ≤ j := by omega
    have hj2 : (j.toNat : Int) = j := by omega
    simp only [execOp, hx.v (hR x), Option.map_some, Option.map_none, hlo.v (hR lo), hhi.v (hR hi)]
    rw [Sem.run_bind, run_sliceAt_string (w := w) T _ _ _ _ hT]
    simp [Instr.slice, run_underlying hT, Instr.sliceBounds, run_sliceBound, h0, h1, h2, hj, hj2, hsz, he]
end
theorem S_strCmp {op : BinOp} {T T' : TypeId} {x y : Operand} {l m : List UInt8} {r : Bool} (hx : Gv (st.ev x) (.p (strP l))) (hy : Gv (st.ev y) (.p (strP m))) (hd : Nat.blt d n = true)
    (hr : ∀ w, Sem.run P (do eqGuard op T x y (.string ⟨l.toArray⟩) (.string ⟨m.toArray⟩); binOp op T (.string ⟨l.toArray⟩) (.string ⟨m.toArray⟩)) w = .ok (.bool r) w) :
    Step P E kp n ops ⟨some d, .binOp op T x y T', ty, ps, af, none⟩ st (st.put d (.p (boolP r))) := S_bin hx hy hd hr
theorem ba_toList (l : List UInt8) : (⟨l.toArray⟩ : ByteArray).toList = l := by simp
theorem beq_dec (l m : List UInt8) : (l == m) = decide (l = m) := by rw [Bool.eq_iff_iff]; simp
theorem S_strEq {T T' : TypeId} {x y : Operand} {l m : List UInt8} (hx : Gv (st.ev x) (.p (strP l))) (hy : Gv (st.ev y) (.p (strP m))) (hd : Nat.blt d n = true) :
    Step P E kp n ops ⟨some d, .binOp .eql T x y T', ty, ps, af, none⟩ st (st.put d (.p (boolP (decide (l = m))))) := S_strCmp hx hy hd fun w => by
  simp only [eqGuard, binOp, Op.stringOp, ba_toList, beq_dec]; rfl
theorem S_strNe {T T' : TypeId} {x y : Operand} {l m : List UInt8} (hx : Gv (st.ev x) (.p (strP l))) (hy : Gv (st.ev y) (.p (strP m))) (hd : Nat.blt d n = true) :
    Step P E kp n ops ⟨some d, .binOp .neq T x y T', ty, ps, af, none⟩ st (st.put d (.p (boolP (!decide (l = m))))) := S_strCmp hx hy hd fun w => by
  simp only [eqGuard, binOp, Op.stringOp, ba_toList, beq_dec]; rfl
theorem S_strLt {T T' : TypeId} {x y : Operand} {l m : List UInt8} (hx : Gv (st.ev x) (.p (strP l))) (hy : Gv (st.ev y) (.p (strP m))) (hd : Nat.blt d n = true) :
    Step P E kp n ops ⟨some d, .binOp .lss T x y T', ty, ps, af, none⟩ st (st.put d (.p (boolP (Op.bytesLess l m)))) := S_strCmp hx hy hd fun w => by
  simp only [eqGuard, binOp, Op.stringOp, ba_toList, beq_dec]; rfl
theorem S_strLe {T T' : TypeId} {x y : Operand} {l m : List UInt8} (hx : Gv (st.ev x) (.p (strP l))) (hy : Gv (st.ev y) (.p (strP m))) (hd : Nat.blt d n = true) :
    Step P E kp n ops ⟨some d, .binOp .leq T x y T', ty, ps, af, none⟩ st (st.put d (.p (boolP (Op.bytesLess l m || decide (l = m))))) := S_strCmp hx hy hd fun w => by
  simp only [eqGuard, binOp, Op.stringOp, ba_toList, beq_dec]; rfl
theorem S_strAdd {T T' : TypeId} {x y : Operand} {l m : List UInt8} (hx : Gv (st.ev x) (.p (strP l))) (hy : Gv (st.ev y) (.p (strP m))) (hlen : l.length + m.length ≤ 9223372036854775807) (hd : Nat.blt d n = true) :
    Step P E kp n ops ⟨some d, .binOp .add T x y T', ty, ps, af, none⟩ st (st.put d (.p (strP (l ++ m)))) := S_bin hx hy hd fun w => by
  have h1 : (⟨l.toArray⟩ : ByteArray).size = l.length := rfl
  have h2 : (⟨m.toArray⟩ : ByteArray).size = m.length := rfl
  have h3 : (⟨l.toArray⟩ : ByteArray) ++ ⟨m.toArray⟩ = ⟨(l ++ m).toArray⟩ := by
    apply ByteArray.ext; simp
  have h4 : ¬ (((l.length + m.length : Nat) : Int) > IntKind.i64.max) := by
    rw [show IntKind.i64.max = 9223372036854775807 from rfl]; omega
  simp only [eqGuard, binOp, Op.stringOp, h1, h2, h3, if_neg h4]; rfl

/-! ### Literals -/
/-- The cells of a literal: its parts put into the zero cells. -/
def fillA (pl : List (Nat × Nat)) : List AV → List (Nat × AV) → Option (List AV)
  | cells, [] => some cells
  | cells, (i, x) :: rest =>
    match pl[i]? with
    | none => none
    | some (o, s) => if x.cs.length = s ∧ o + s ≤ cells.length ∧ allOne x.cs = true then fillA pl (putL cells o x.cs) rest else none
theorem foldl_putL (xs : List Value) : ∀ (j o : Nat) (cs : Array Value), ((xs.zipIdx j).foldl (fun cs (p : Value × Nat) => cs.setIfInBounds (o + p.2) p.1) cs).toList = putL cs.toList (o + j) xs := by
  induction xs with
  | nil => intro j o cs; rfl
  | cons x xs ih =>
    intro j o cs
    simp only [List.zipIdx_cons, List.foldl_cons]
    rw [ih (j + 1) o]
    simp [putL, Nat.add_assoc]
theorem fill_R {w : World} {Pub : Nat → Nat → Prop} {φ : Ghost} {pl : List (Nat × Nat)} {place : Nat → Option (Nat × Nat)} (hpl : ∀ i os, pl[i]? = some os → place i = some os) {a : Act} :
    ∀ {parts : List (Nat × AV)} {us : List (Nat × Value)} {cells out : List AV} {cur : Array Value}, fillA pl cells parts = some out → RAs w Pub φ cells cur.toList →
      parts.length = us.length → (∀ (j i : Nat) (x : AV), parts[j]? = some (i, x) → ∃ u : Value, us[j]? = some (i, u) ∧ RA w Pub φ x u) →
      ∃ cur' : Array Value, Instr.fill place cur us = some cur' ∧ RAs w Pub φ out cur'.toList
  | [], us, cells, out, cur, h, hR, hl, _ => by
    simp only [fillA, Option.some.injEq] at h; subst h
    have : us = [] := List.eq_nil_of_length_eq_zero hl.symm
    subst this
    exact ⟨cur, rfl, hR⟩
  | (i, x) :: parts, us, cells, out, cur, h, hR, hl, hp => by
    obtain ⟨u, hu, hxu⟩ := hp 0 i x rfl
    cases us with
    | nil => simp at hu
    | cons p us =>
      simp only [List.getElem?_cons_zero, Option.some.injEq] at hu; subst hu
      simp only [fillA] at h
      cases hq : pl[i]? with
      | none => rw [hq] at h; cases h
      | some os =>
        obtain ⟨o, s⟩ := os
        rw [hq] at h
        simp only at h
        split at h
        · next hc =>
          obtain ⟨c1, c2⟩ := cs_R hc.2.2 hxu
          have hlc := RAs_length c1
          have hcl := RAs_length hR
          have hsz : u.cells.size = s := by rw [← Array.length_toList]; omega
          obtain ⟨cur', h1, h2⟩ := fill_R (cur := (u.cells.zipIdx.foldl (fun cs (p : Value × Nat) => cs.setIfInBounds (o + p.2) p.1) cur)) hpl (a := a) h (by
              rw [← Array.foldl_toList, Array.toList_zipIdx, foldl_putL, Nat.add_zero]; exact RAs_putL o hR c1) (by simpa using hl) (fun j i y hy => by
              obtain ⟨v, hv, hyv⟩ := hp (j + 1) i y (by simpa using hy)
              exact ⟨v, by simpa using hv, hyv⟩)
          refine ⟨cur', ?_, h2⟩
          rw [Array.length_toList] at hcl
          have hn : ¬ (u.cells.size ≠ s ∨ o + u.cells.size > cur.size) := by omega
          simp only [Instr.fill, hpl i _ hq]
          rw [if_neg (by simpa using hn)]
          exact h1
        · cases h
theorem run_mapM_places {T : TypeId} {fs : Array Field} {pl : List (Nat × Nat)} (hu : P.underlying T = some (.struct fs)) (hp : plOf P T = some pl) (w : World) :
    (fs.mapM fun f => (do pure (f.offset, ← sizeOf f.type) : Sem (Nat × Nat))).run P w = .ok pl.toArray w := by
  unfold plOf at hp
  rw [hu] at hp
  simp only at hp
  have key : ∀ (l : List Field) (pl : List (Nat × Nat)), (l.mapM fun f => (P.info? f.type).map fun i => (f.offset, i.size)) = some pl → (l.mapM fun f => (do pure (f.offset, ← sizeOf f.type) : Sem (Nat × Nat))).run P w = .ok pl w := by
    intro l
    induction l with
    | nil => intro pl h1; simp at h1; subst h1; rfl
    | cons f l ih =>
      intro pl h1
      rw [List.mapM_cons] at h1 ⊢
      cases hq : P.info? f.type with
      | none => rw [hq] at h1; cases h1
      | some fi =>
        rw [hq] at h1
        cases hl : (l.mapM fun f => (P.info? f.type).map fun i => (f.offset, i.size)) with
        | none => simp only [hl] at h1; cases h1
        | some pl' =>
          simp only [hl, Option.map_some] at h1
          cases h1
          have hs : (sizeOf f.type).run P w = .ok fi.size w := run_sizeOf (by unfold szOf; rw [hq]; rfl) w
          simp only [Sem.run_bind, hs, ih pl' hl, Result.andThen_ok, Sem.run_pure]
  have := key fs.toList pl hp
  rw [Array.mapM_eq_mapM_toList]
  change Sem.run P ((List.mapM _ fs.toList) >>= fun l => pure l.toArray) w = _
  rw [Sem.run_bind, this]; rfl
/-- A struct literal. -/
theorem S_build {T : TypeId} {parts : List (Nat × Operand)} {pl : List (Nat × Nat)} {z : List Value} {out : List AV} (hp : plOf P T = some pl) (hz : zeOf P T = some z) (hf : fillA pl (boxV z) (parts.map fun p => (p.1, st.ev p.2)) = some out) (hd : Nat.blt d n = true) :
    Step P E kp n ops ⟨some d, .build T parts.toArray, ty, ps, af, none⟩ st (st.put d (.agg out)) :=
  S_pure _ rfl rfl hd fun a w φ Pub I hR => by
    obtain ⟨fs, hu⟩ := struct_of hp
    obtain ⟨v, hv, hc⟩ := run_zeroCells hz w
    obtain ⟨cur', h1, h2⟩ := fill_R (place := (pl.toArray[·]?)) (a := a) (fun i os hos => by simpa using hos) (us := parts.map fun p => (p.1, a.eval p.2)) (cur := z.toArray) hf (RAs_vals z) (by simp) (fun j i x hj => by
      rw [List.getElem?_map] at hj ⊢
      cases hq : parts[j]? with
      | none => rw [hq] at hj; cases hj
      | some p =>
        rw [hq] at hj
        simp only [Option.map_some, Option.some.injEq, Prod.mk.injEq] at hj
        obtain ⟨rfl, rfl⟩ := hj
        exact ⟨a.eval p.2, rfl, hR p.2⟩)
    refine ⟨.agg cur', ?_, by unfold RA; exact ⟨cur'.toList, by simp, h2⟩⟩
    have hr : (Instr.build T (parts.toArray.map fun (i, x) => (i, a.eval x))).run P w = .ok (.agg cur') w := by
      unfold Instr.build
      simp only [Sem.run_bind, hv, hc, Result.andThen_ok, run_underlying hu, run_mapM_places hu hp]
      have e : (parts.toArray.map fun (p : Nat × Operand) => (p.1, a.eval p.2)).toList = parts.map fun p => (p.1, a.eval p.2) := by simp
      rw [e, h1]; rfl
    simp only [execOp]
    rw [Sem.run_bind]
    exact (by rw [hr]; rfl)

/-! ### What may be forgotten, renamed, shared -/
/-- The slots that are kept, with values that theirs are. -/
def subS (sl sl' : List (Nat × AV)) : Prop := ∀ s, Gv (look AV.any sl s) (look AV.any sl' s)
theorem Gv.any {x : AV} : Gv x .any := fun _ _ _ _ _ => by simp [RA]
theorem subS.nil {sl : List (Nat × AV)} : subS sl [] := fun s => Gv.any
theorem subS.cons {sl sl' : List (Nat × AV)} {s : Nat} {x : AV} (h : Gv (look AV.any sl s) x) (k : subS sl sl') : subS sl ((s, x) :: sl') := fun q => by
  rw [look_cons]
  by_cases e : s = q
  · subst e; rw [if_pos rfl]; exact h
  · rw [if_neg e]; exact k q
/-- The nil slice in a slot becomes an empty row of the call's own. -/
theorem wk_nil (s r : Nat) (t : TypeId) (sz : Nat) (h : Gv (look AV.any st.slots s) (.p (.v (.slice none 0 0)))) (hf : st.free kp r = true) : Wk E kp n st ⟨(s, .osl r 0) :: st.slots, (r, .row [] t sz 0) :: st.heap⟩ := by
  rintro a w ⟨φ, Pub, I, h0, hn, hsl⟩
  obtain ⟨f1, f2, f3, f4⟩ := free_split hf
  refine ⟨_, Pub, I.nilRow f1 f2 f4 t sz 0, h0, hn, fun q => ?_⟩
  simp only [look_cons]
  split
  · next e => subst e; unfold RA; exact .inr ⟨if_pos rfl, rfl, h.v (hsl s)⟩
  · exact RA_rename (Adv.refl _ _) (look_sHas f3) (hsl q)

/-- A block of the call's own is shared: wherever it is spoken of, its cells are. -/
def shA (r : Nat) (cells : List PV) : AV → AV
  | .own q off => bif Nat.beq q r then .p (.pp cells off) else .own q off
  | .osl q m => bif Nat.beq q r then .p (.sl cells m) else .osl q m
  | .oss q k m s => bif Nat.beq q r then .any else .oss q k m s
  | x => x
def shB (r : Nat) (cells : List PV) : OB → OB
  | .box cs t => .box (cs.map (shA r cells)) t
  | x => x
def shS (r : Nat) (cells : List PV) : List (Nat × AV) → List (Nat × AV)
  | [] => []
  | (s, x) :: l => (s, shA r cells x) :: shS r cells l
def shH (r : Nat) (cells : List PV) : List (Nat × OB) → List (Nat × OB)
  | [] => []
  | (s, x) :: l => (s, shB r cells x) :: shH r cells l
theorem shA_R {w : World} {Pub : Nat → Nat → Prop} {φ : Ghost} {r : Nat} {cells : List PV} (h1 : ∀ b c, φ r = some (b, c) → RPc w Pub cells b 0 ∧ c ≤ maxLen) (h2 : φ r = none → cells = []) {x : AV} {u : Value} (h : RA w Pub φ x u) : RA w Pub φ (shA r cells x) u := by
  cases x with
  | own q off =>
    simp only [shA]
    cases hq : Nat.beq q r with
    | false => exact h
    | true =>
      have := Nat.eq_of_beq_eq_true hq; subst this
      show RA w Pub φ (.p (.pp cells off)) u
      unfold RA at h ⊢
      obtain ⟨b, c, e1, e2⟩ := h
      unfold RP
      exact ⟨b, 0, by rw [Nat.zero_add]; exact e2, (h1 b c e1).1⟩
  | osl q m =>
    simp only [shA]
    cases hq : Nat.beq q r with
    | false => exact h
    | true =>
      have := Nat.eq_of_beq_eq_true hq; subst this
      show RA w Pub φ (.p (.sl cells m)) u
      unfold RA at h ⊢
      unfold RP
      rcases h with ⟨b, c, e1, e2, e3⟩ | ⟨e1, e2, e3⟩
      · exact ⟨_, c, e2, e3, (h1 b c e1).2, (fun h => by cases h), .inr ⟨b, 0, rfl, (h1 b c e1).1⟩⟩
      · subst e2; exact ⟨none, 0, e3, Nat.le_refl _, by unfold maxLen; omega, fun _ => rfl, .inl rfl⟩
  | oss q k m s =>
    simp only [shA]
    cases hq : Nat.beq q r with
    | false => exact h
    | true => show RA w Pub φ .any u; unfold RA; trivial
  | _ => exact h
def AS.share (st : AS) (r : Nat) (cells : List PV) (t : TypeId) (sz : Nat) : AS := ⟨shS r cells st.slots, (r, .row cells t sz cells.length) :: shH r cells st.heap⟩
/-! ### make, append -/
def apOf (P : Program) (T : TypeId) : Option (TypeId × Nat × Nat × List Value) :=
  match P.underlying T with
  | some (.slice e) => (P.info? e).bind fun i => i.zero.bind fun z => if z.cells.size = i.size then some (e, i.size, i.bytes, z.cells.toList) else none
  | _ => none
theorem ap_of {T e : TypeId} {sz bytes : Nat} {z : List Value} (hT : apOf P T = some (e, sz, bytes, z)) : ∃ i v, P.underlying T = some (.slice e) ∧ P.info? e = some i ∧ i.zero = some v ∧ i.size = sz ∧ i.bytes = bytes ∧ v.cells.size = sz ∧ v.cells.toList = z := by
  unfold apOf at hT
  split at hT
  · next e' h =>
    cases hq : P.info? e' with
    | none => rw [hq] at hT; cases hT
    | some i =>
      rw [hq] at hT
      simp only [Option.bind_some] at hT
      cases hz : i.zero with
      | none => rw [hz] at hT; cases hT
      | some v =>
        rw [hz] at hT
        simp only [Option.bind_some] at hT
        split at hT
        · next hs =>
          simp only [Option.some.injEq, Prod.mk.injEq] at hT
          obtain ⟨rfl, rfl, rfl, rfl⟩ := hT
          exact ⟨i, v, h, hq, hz, rfl, rfl, hs, rfl⟩
        · cases hT
  · cases hT
/-- What is appended, whatever it is. -/
def SrcOk (st : AS) (sz : Nat) (x : AV) (m : Nat) (news : List PV) : Prop :=
  ∀ (E : Env) (kp : List Nat) (φ : Ghost) (Pub : Nat → Nat → Prop) (w : World) (u : Value), Inv E kp φ Pub st.heap w → RA w Pub φ x u → ∃ a c vs, u = .slice a m c ∧ RPs w Pub news vs ∧ Src w sz a m vs
theorem SrcOk.sl {sz m : Nat} {x : AV} {cells : List PV} (hx : Gv x (.p (.sl cells m))) (hl : cells.length = m * sz) (hsz : 0 < sz) : SrcOk st sz x m cells := by
  intro E kp φ Pub w u I h
  have h := hx _ _ _ _ h
  unfold RA RP at h
  obtain ⟨a, c, rfl, k1, k2, k3, k4⟩ := h
  rcases k4 with k4 | ⟨b, o, rfl, k4⟩
  · subst k4
    have hc : cells = [] := List.eq_nil_of_length_eq_zero (by omega)
    subst hc
    refine ⟨a, c, [], rfl, by unfold RPs; rfl, by simp, by simp, ?_⟩
    cases a with
    | none => exact .inl ⟨rfl, rfl⟩
    | some ad => exact .inr ⟨ad, rfl, by simp⟩
  · obtain ⟨vs, c1, c2, c3⟩ := RPc_vals k4
    exact ⟨_, c, vs, rfl, c1, by rw [RPs_length c1]; exact hl, c2, .inr ⟨_, rfl, fun j v hv => by rw [Addr.add_mid]; exact c3 j v hv⟩⟩
theorem SrcOk.osl {sz m r pub : Nat} {x : AV} {t : TypeId} {cells : List PV} (hx : Gv x (.osl r m)) (hl : st.ob r = .row cells t sz pub) (hm : m * sz = cells.length) (hsz : 0 < sz) : SrcOk st sz x m cells := by
  intro E kp φ Pub w u I h
  have h := hx _ _ _ _ h
  unfold RA at h
  rcases h with ⟨b, c, e1, rfl, e3⟩ | ⟨e1, rfl, rfl⟩
  · obtain ⟨vs, c1, c2, c3⟩ := own_cell_row I hl e1
    exact ⟨_, c, vs, rfl, c1, by rw [RPs_length c1]; exact hm.symm, c2, .inr ⟨_, rfl, fun j v hv => by rw [Addr.add_mid, Nat.zero_add]; exact c3 j v hv⟩⟩
  · have hc : cells = [] := List.eq_nil_of_length_eq_zero (by omega)
    subst hc
    exact ⟨none, 0, [], rfl, by unfold RPs; rfl, by simp, by simp, .inl ⟨rfl, rfl⟩⟩
theorem SrcOk.nil {sz : Nat} {x : AV} (hx : Gv x (.p (.v (.slice none 0 0)))) : SrcOk st sz x 0 [] := by
  intro E kp φ Pub w u I h
  have := hx.v h; subst this
  exact ⟨none, 0, [], rfl, by unfold RPs; rfl, by simp, by simp, .inl ⟨rfl, rfl⟩⟩
theorem S_append {T e : TypeId} {x y : Operand} {sz bytes r m0 m pub : Nat} {cells news : List PV} {z : List Value} (r' : Nat) (hx : Gv (st.ev x) (.osl r m0)) (hl : st.ob r = .row cells e sz pub) (hn : m0 * sz = cells.length)
    (hs : SrcOk st sz (st.ev y) m news) (hT : apOf P T = some (e, sz, bytes, z)) (hsz : 0 < sz) (hb : (m0 + m) * bytes ≤ 140737488355328) (hm : m0 + m ≤ 140737488355328) (hf : st.free kp r' = true) (hd : Nat.blt d n = true) :
    Step P E kp n ops ⟨some d, .call { callee := .builtin .append, args := #[x, y], argTypes := #[T, T] }, ty, ps, af, none⟩ st ⟨(d, .osl r' (m0 + m)) :: st.slots, (r', .row (cells ++ news) e sz pub) :: (r, .dead) :: st.heap⟩ := by
  refine Step.val rfl fun a w ⟨φ, Pub, I, h0, hnn, hsl⟩ => ?_
  obtain ⟨f1, f2, f3, f4⟩ := free_split hf
  obtain ⟨i, v, t1, t2, t3, t4, t5, t6, t7⟩ := ap_of hT
  obtain ⟨ad, c, vs, e1, c1, c2⟩ := hs E kp φ Pub w _ I (ev_R (h := st.heap) hsl y)
  obtain ⟨v', w', g, hr, I', hR, H⟩ := I.append (P := P) hl (hx _ _ _ _ (ev_R (h := st.heap) hsl x)) hn f1 f2 f4 T ty i v bytes t1 t2 t3 t4 t5 t6 hsz ad m c vs c1 c2 (by unfold maxLen; omega) hb
  refine ⟨v', w', ?_, Sat.put I' h0 hnn (fun s => RA_rename H (look_sHas f3) (hsl s)) hd hR⟩
  simp only [execOp, resolve, invoke, builtin, Sem.run_bind, Sem.run_pure, Result.andThen_ok, List.map_toArray, List.map_cons, List.map_nil, e1, hr]
/-- A new block that is a row of the call's own. -/
theorem row_made {φ : Ghost} {Pub : Nat → Nat → Prop} {w : World} {a : Act} (I : Inv E kp φ Pub st.heap w) (h0 : a.defers = []) (hn : a.tmps.size = n) (hsl : ∀ s, RA w Pub φ (look .any st.slots s) (a.tmps.getD s undef)) {r sz m c : Nat} {cur : Array Value} {e : TypeId} {cells : List PV}
    (hf : st.free kp r = true) (hd : Nat.blt d n = true) (hsz : cur.size = c * sz) (hle : cells.length ≤ cur.size) (hR : RPs w Pub cells (cur.toList.take cells.length)) (h1 : ∀ u ∈ cur.toList.take cells.length, u.oneCell' = true) (hc : c ≤ maxLen) (hm : m ≤ c) :
    Sat E kp n ⟨(d, .osl r m) :: st.slots, (r, .row cells e sz 0) :: st.heap⟩ (a.put (some d) (.slice (some ⟨w.heap.size, 0, none⟩) m c)) (w.alloc (.cells cur e)) := by
  obtain ⟨f1, f2, f3, f4⟩ := free_split hf
  have I' := I.alloc f1 f2 f4 (.cells cur e) c (ob := .row cells e sz 0) (.inr ⟨w.heap.size, c, cur, (0, 0), if_pos rfl, ⟨heap_alloc_new w _, .inl rfl⟩, hc, hsz, hle, RPs_mono (adv_alloc I _) _ _ hR, h1, fun i hp => by have := I.publ _ _ hp; omega⟩)
  exact Sat.put I' h0 hn (fun s => RA_alloc I (look_sHas f3) c (hsl s)) hd (by unfold RA; exact .inl ⟨_, _, if_pos rfl, rfl, hm⟩)
/-- The cells of n zero values. -/
def zerosP (z : List Value) : Nat → List PV
  | 0 => []
  | k + 1 => z.map .v ++ zerosP z k
theorem zerosP_length (z : List Value) : ∀ k, (zerosP z k).length = k * z.length
  | 0 => by simp [zerosP]
  | k + 1 => by simp [zerosP, zerosP_length z k, Nat.succ_mul]; omega
theorem zerosP_one (v : Value) : ∀ k, zerosP [v] k = List.replicate k (.v v)
  | 0 => rfl
  | k + 1 => by simp [zerosP, zerosP_one v k, List.replicate_succ]
theorem vals_RPs {w : World} {Pub : Nat → Nat → Prop} : ∀ (vs : List Value), RPs w Pub (vs.map .v) vs
  | [] => by simp only [List.map_nil]; unfold RPs; rfl
  | v :: vs => by rw [List.map_cons]; unfold RPs; exact ⟨v, vs, rfl, by unfold RP; rfl, vals_RPs vs⟩
def zerosV (z : List Value) : Nat → List Value
  | 0 => []
  | k + 1 => z ++ zerosV z k
theorem zerosV_R {w : World} {Pub : Nat → Nat → Prop} (z : List Value) : ∀ k, RPs w Pub (zerosP z k) (zerosV z k)
  | 0 => by unfold zerosP zerosV RPs; rfl
  | k + 1 => RPs_append (vals_RPs z) (zerosV_R z k)
theorem zerosV_length (z : List Value) : ∀ k, (zerosV z k).length = k * z.length
  | 0 => by simp [zerosV]
  | k + 1 => by simp [zerosV, zerosV_length z k, Nat.succ_mul]; omega
theorem zerosV_get (z : List Value) (hz : 0 < z.length) : ∀ k i, i < k * z.length → (zerosV z k)[i]? = z[i % z.length]?
  | 0, i, h => by simp at h
  | k + 1, i, h => by
    simp only [zerosV]
    by_cases hi : i < z.length
    · rw [List.getElem?_append_left hi, Nat.mod_eq_of_lt hi]
    · rw [List.getElem?_append_right (by omega), zerosV_get z hz k _ (by rw [Nat.succ_mul] at h; omega), show i % z.length = (i - z.length) % z.length from Nat.mod_eq_sub_mod (by omega)]
theorem madeCells_eq (z : Array Value) (hz : 0 < z.size) (k : Nat) : (madeCells z (k * z.size)).toList = zerosV z.toList k := by
  apply List.ext_getElem?
  intro i
  have hzl : 0 < z.toList.length := by simpa using hz
  by_cases hi : i < k * z.size
  · rw [zerosV_get z.toList hzl k i (by simpa using hi)]
    have hlt : i % z.size < z.size := Nat.mod_lt _ hz
    simp [madeCells, hi, Array.getElem?_eq_getElem hlt, hlt]
  · rw [List.getElem?_eq_none (by simp [madeCells]; omega), List.getElem?_eq_none (by rw [zerosV_length]; simp; omega)]
theorem zerosV_one {z : List Value} (h1 : z.all (·.oneCell') = true) : ∀ k, ∀ u ∈ zerosV z k, u.oneCell' = true
  | 0, u, hu => by simp [zerosV] at hu
  | k + 1, u, hu => by
    simp only [zerosV, List.mem_append] at hu
    rcases hu with hu | hu
    · rw [List.all_eq_true] at h1; exact h1 u hu
    · exact zerosV_one h1 k u hu
theorem zerosV_take (z : List Value) : ∀ (a b : Nat), a ≤ b → (zerosV z b).take (a * z.length) = zerosV z a
  | 0, b, h => by simp [zerosV]
  | a + 1, 0, h => by omega
  | a + 1, b + 1, h => by
    simp only [zerosV]
    rw [Nat.succ_mul, Nat.add_comm, List.take_append, List.take_of_length_le (by omega), show z.length + a * z.length - z.length = a * z.length from by omega, zerosV_take z a b (by omega)]
theorem S_make {T e : TypeId} {x y : Operand} {sz bytes l c : Nat} {k1 k2 : IntKind} {z : List Value} (r : Nat) (hx : Gv (st.ev x) (.p (.v (.int k1 (l : Int))))) (hy : Gv (st.ev y) (.p (.v (.int k2 (c : Int))))) (hT : apOf P T = some (e, sz, bytes, z)) (hsz : 0 < sz) (h1 : z.all (·.oneCell') = true)
    (hlc : l ≤ c) (hb : bytes * c ≤ 281474976710656) (hm : c ≤ 281474976710656) (hf : st.free kp r = true) (hd : Nat.blt d n = true) :
    Step P E kp n ops ⟨some d, .makeSlice T x y, ty, ps, af, none⟩ st ⟨(d, .osl r l) :: st.slots, (r, .row (zerosP z l) e sz 0) :: st.heap⟩ := by
  refine Step.val rfl fun a w ⟨φ, Pub, I, h0, hn, hsl⟩ => ?_
  obtain ⟨i, v, t1, t2, t3, t4, t5, t6, t7⟩ := ap_of hT
  have e1 := hx.v (ev_R (h := st.heap) hsl x)
  have e2 := hy.v (ev_R (h := st.heap) hsl y)
  have hr := run_make (P := P) w T e i v t1 t2 t3 k1 k2 (l : Int) (c : Int) (by omega) (by omega) (by rw [t5, ← Int.natCast_mul]; omega) (by omega)
  rw [Int.toNat_natCast, Int.toNat_natCast, t4] at hr
  have hzl : z.length = sz := by rw [← t7, Array.length_toList, t6]
  have hcur : (madeCells v.cells (c * sz)).toList = zerosV z c := by
    rw [← t6, madeCells_eq v.cells (by omega) c, t7]
  have htk : (madeCells v.cells (c * sz)).toList.take (zerosP z l).length = zerosV z l := by
    rw [hcur, zerosP_length]; exact zerosV_take z l c hlc
  refine ⟨_, _, ?_, row_made (st := st) I h0 hn hsl (r := r) (sz := sz) (m := l) (c := c) (cur := madeCells v.cells (c * sz)) (e := e) (cells := zerosP z l) hf hd (by simp [madeCells]) ?_ (by rw [htk]; exact zerosV_R z l) (by rw [htk]; exact zerosV_one h1 l) (by unfold maxLen; omega) hlc⟩
  · simp only [execOp, e1, e2]
    rw [Sem.run_bind, hr]; rfl
  · rw [zerosP_length, hzl]; simp [madeCells]; exact Nat.mul_le_mul_right _ hlc
theorem fresh_zero (z : Array Value) (hz : 0 < z.size) (k : Nat) : ((Array.range (k * z.size)).map (z[· % z.size]!)).toList = zerosV z.toList k := by
  rw [← madeCells_eq z hz k]; rfl
/-- A slice literal, all of whose elements are said. -/
theorem S_buildSlice {T e : TypeId} {parts : List (Nat × Operand)} {sz bytes len : Nat} {z : List Value} {out : List AV} {qs : List PV} (r : Nat) (hpos : 0 < len) (hT : apOf P T = some (e, sz, bytes, z)) (hsz : 0 < sz) (h1 : z.all (·.oneCell') = true) (hlen : Nat.ble (len * sz) 1000000 = true)
    (hf : fillA ((List.range len).map fun i => (i * sz, sz)) (boxV (zerosV z len)) (parts.map fun p => (p.1, st.ev p.2)) = some out) (hone : allOne out = true) (hq : AV.toPs out = some qs) (hql : qs.length = len * sz) (hfr : st.free kp r = true) (hd : Nat.blt d n = true) :
    Step P E kp n ops ⟨some d, .buildSlice T len parts.toArray, ty, ps, af, none⟩ st ⟨(d, .osl r len) :: st.slots, (r, .row qs e sz 0) :: st.heap⟩ := by
  refine Step.val rfl fun a w ⟨φ, Pub, I, h0, hn, hsl⟩ => ?_
  have hlen := Nat.le_of_ble_eq_true hlen
  obtain ⟨i, v, t1, t2, t3, t4, t5, t6, t7⟩ := ap_of hT
  have hzv : (zeroValue e).run P w = .ok v w := by simp [zeroValue, typeInfo, t2, t3]
  have hso : (sizeOf e).run P w = .ok sz w := run_sizeOf (by unfold szOf; rw [t2]; simp [t4]) w
  have hR : ∀ y, RA w Pub φ (st.ev y) (a.eval y) := ev_R hsl
  have hvz : v.cells.size = sz := t6
  obtain ⟨cur', k1, k2⟩ := fill_R (w := w) (Pub := Pub) (φ := φ) (place := fun i => some (i * sz, sz)) (a := a) (fun i os hos => by
      rw [List.getElem?_map] at hos
      cases hr : (List.range len)[i]? with
      | none => rw [hr] at hos; cases hos
      | some j =>
        rw [hr] at hos
        have : j = i := by rw [List.getElem?_eq_some_iff] at hr; obtain ⟨_, h⟩ := hr; simpa using h.symm
        subst this; simpa using hos) (us := parts.map fun p => (p.1, a.eval p.2)) (cur := (Array.range (len * sz)).map (v.cells[· % v.cells.size]!)) hf (by
      have := fresh_zero v.cells (by omega) len
      rw [t6, t7] at this
      rw [t6, this]
      exact RAs_vals _) (by simp) (fun j i x hj => by
      rw [List.getElem?_map] at hj ⊢
      cases hq : parts[j]? with
      | none => rw [hq] at hj; cases hj
      | some p =>
        rw [hq] at hj
        simp only [Option.map_some, Option.some.injEq, Prod.mk.injEq] at hj
        obtain ⟨rfl, rfl⟩ := hj
        exact ⟨a.eval p.2, rfl, hR p.2⟩)
  have k3 := toPs_R hq k2
  have hcl := RPs_length k3
  rw [Array.length_toList] at hcl
  refine ⟨.slice (some ⟨w.heap.size, 0, none⟩) len len, w.alloc (.cells cur' e), ?_, row_made (st := st) I h0 hn hsl hfr hd (by rw [hcl, hql]) (by omega) ?_ ?_ (by unfold maxLen; have : len ≤ len * sz := Nat.le_mul_of_pos_right _ hsz; omega) (Nat.le_refl _)⟩
  · have hz : ¬ (len * sz > 2 ^ 24) := by omega
    have e2 : (parts.toArray.map fun (p : Nat × Operand) => (p.1, a.eval p.2)).toList = parts.map fun p => (p.1, a.eval p.2) := by simp
    simp only [execOp]
    rw [Sem.run_bind]
    unfold Instr.buildSlice
    simp only [Sem.run_bind, run_underlying t1, Result.andThen_ok, hso, if_neg hz]
    have h00 : ¬ len * sz = 0 := by have := Nat.mul_pos hpos hsz; omega
    simp only [if_neg h00, Sem.run_bind, hzv, Result.andThen_ok, Sem.run_pure]
    rw [e2, k1]
    simp [newRow, newObj, Sem.run]
  · rw [List.take_of_length_le (by rw [Array.length_toList]; omega)]; exact k3
  · rw [List.take_of_length_le (by rw [Array.length_toList]; omega)]; exact allOne_R hone k2
theorem Gv.nilSl : Gv (.p (.v (.slice none 0 0))) (.p (.sl [] 0)) := fun w Pub φ u h => by
  unfold RA RP at h ⊢
  exact ⟨none, 0, h, Nat.le_refl _, by unfold maxLen; omega, fun _ => rfl, .inl rfl⟩
def AllGv : List AV → List AV → Prop
  | [], ys => ys = []
  | x :: xs, ys => ∃ y zs, ys = y :: zs ∧ Gv x y ∧ AllGv xs zs
theorem AllGv.nil : AllGv [] [] := rfl
theorem AllGv.cons {x y : AV} {xs ys : List AV} (h : Gv x y) (k : AllGv xs ys) : AllGv (x :: xs) (y :: ys) := ⟨y, ys, rfl, h, k⟩
theorem AllGv.R {w : World} {Pub : Nat → Nat → Prop} {φ : Ghost} : ∀ {xs ys : List AV} {us : List Value}, AllGv xs ys → RAs w Pub φ xs us → RAs w Pub φ ys us
  | [], ys, us, h, k => by unfold AllGv at h; subst h; exact k
  | x :: xs, ys, us, h, k => by
    obtain ⟨y, zs, rfl, h1, h2⟩ := h
    unfold RAs at k ⊢
    obtain ⟨u, us', e, k1, k2⟩ := k
    exact ⟨u, us', e, h1 _ _ _ _ k1, AllGv.R h2 k2⟩
/-- A slice against nil: whether it is nil is not known, unless it has elements. -/
theorem run_eqNil {T e : TypeId} {s : Nat} (hT : slOf P T = some (e, s)) (a : Option Addr) (m c : Nat) (x y : Operand) (w : World) : Sem.run P (do eqGuard .eql T x y (.slice a m c) (.slice none 0 0); binOp .eql T (.slice a m c) (.slice none 0 0)) w = .ok (.bool a.isNone) w := by
  have h : ∀ d, (Op.equalIn (d + 1) T (.slice a m c) (.slice none 0 0)).run P w = .ok a.isNone w := fun d => by
    cases a <;> simp [Op.equalIn, run_underlying (sl_of hT).1]
  simp [eqGuard, binOp, Op.equal, Op.maxDepth, h 9999]
theorem AO.eqNil {Q : Exit → Act → World → Prop} {T T' e : TypeId} {s m : Nat} {x y : Operand} {cells : List PV} {rest : List Oper} (hx : Gv (st.ev x) (.p (.sl cells m))) (hy : Gv (st.ev y) (.p (.v (.slice none 0 0)))) (hT : slOf P T = some (e, s)) (hd : Nat.blt d n = true)
    (h : ∀ g : Bool, (g = true → m = 0) → AO P E kp n ops Q rest (st.put d (.p (boolP g)))) : AO P E kp n ops Q (⟨some d, .binOp .eql T x y T', ty, ps, af, none⟩ :: rest) st := by
  rintro a w ⟨φ, Pub, I, h0, hn, hsl⟩
  have k := hx _ _ _ _ (ev_R (h := st.heap) hsl x)
  unfold RA RP at k
  obtain ⟨ad, c, e1, k1, k2, k3, k4⟩ := k
  have e2 := hy.v (ev_R (h := st.heap) hsl y)
  refine wpList_plain rfl fun K hK => ?_
  unfold Oper.wp
  have hr : (execOp a.eval ⟨some d, .binOp .eql T x y T', ty, ps, af, none⟩).run P w = .ok (.value (.bool ad.isNone)) w := by
    simp only [execOp, e1, e2]
    rw [Sem.run_bind, run_eqNil hT]; rfl
  rw [hr]
  refine hK _ _ (h ad.isNone (fun hg => ?_) _ _ (Sat.put I h0 hn hsl hd (by simp [RA, RP])))
  have := k3 (Option.isNone_iff_eq_none.1 hg); omega
/-- An empty slice literal. -/
theorem S_buildSlice0 {T e : TypeId} {sz bytes : Nat} {z : List Value} (r : Nat) (hT : apOf P T = some (e, sz, bytes, z)) (hfr : st.free kp r = true) (hd : Nat.blt d n = true) :
    Step P E kp n ops ⟨some d, .buildSlice T 0 #[], ty, ps, af, none⟩ st ⟨(d, .osl r 0) :: st.slots, (r, .row [] e sz 0) :: st.heap⟩ := by
  refine Step.val rfl fun a w ⟨φ, Pub, I, h0, hn, hsl⟩ => ?_
  obtain ⟨i, v, t1, t2, t3, t4, t5, t6, t7⟩ := ap_of hT
  have hso : (sizeOf e).run P w = .ok sz w := run_sizeOf (by unfold szOf; rw [t2]; simp [t4]) w
  refine ⟨.slice (some ⟨w.heap.size, 0, none⟩) 0 0, w.alloc (.cells #[] e), ?_, row_made (st := st) (sz := sz) I h0 hn hsl hfr hd (by simp) (by simp) (by simp [RPs]) (by simp) (by unfold maxLen; omega) (Nat.le_refl _)⟩
  simp only [execOp]
  rw [Sem.run_bind]
  unfold Instr.buildSlice
  simp [Sem.run_bind, run_underlying t1, Result.andThen_ok, hso, Instr.fill, newRow, newObj, Sem.run]
  congr 2
  apply Array.ext <;> simp
/-- The byte that a number comes to. -/
def u8of (i : Int) : UInt8 := UInt8.ofNat (i % 256).toNat
theorem u8of_toNat (i : Int) : ((u8of i).toNat : Int) = i % 256 := by
  unfold u8of
  rw [UInt8.toNat_ofNat']
  have h1 := Int.emod_nonneg i (show (256 : Int) ≠ 0 by decide)
  have h2 := Int.emod_lt_of_pos i (show (0 : Int) < 256 by decide)
  omega
theorem u8w (i : Int) : IntKind.u8.wrap i = ((u8of i).toNat : Int) := by rw [IntKind.wrap_u8, u8of_toNat]
theorem u8i (c : UInt8) : IntKind.i64.wrap (c.toNat : Int) = (c.toNat : Int) := by
  have := c.toNat_lt
  exact IntWalk.i64_in _ (by omega)
theorem u8of_id (c : UInt8) : u8of (c.toNat : Int) = c := by
  apply UInt8.toNat_inj.1
  have := u8of_toNat (c.toNat : Int)
  have := c.toNat_lt
  omega
theorem Ret.eq {fn : Func} {hout : List (Nat × OB)} {res res' : AV} {e : Exit} (k : To E kp n (bodyPost P fn (EvPost E kp hout res')) e st) (h : res' = res) : To E kp n (bodyPost P fn (EvPost E kp hout res)) e st := h ▸ k
theorem w64 {x : Int} (h0 : -9223372036854775808 ≤ x) (h1 : x ≤ 9223372036854775807) : IntKind.i64.wrap x = x := IntWalk.i64_in x ⟨h0, h1⟩
theorem Gv.int {k : IntKind} {i j : Int} (h : i = j) : Gv (.p (.v (.int k i))) (.p (.v (.int k j))) := by rw [h]; exact Gv.r
end
end Go.Proofs.YtcebndkiagbddaaGreatDoor

