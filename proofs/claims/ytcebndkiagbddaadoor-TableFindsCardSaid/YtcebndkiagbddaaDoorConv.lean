/- From contracts over worlds (Calls, Below) to contracts over values. It names no function of the program. -/
import Derived.Test.YtcebndkiagbddaaDoorFD
import Derived.Test.YtcebndkiagbddaaDoorBytes
namespace Go.Proofs.YtcebndkiagbddaaDoor
open Go.RowKit
set_option linter.unusedVariables false
set_option linter.unusedSimpArgs false

section
variable {E : Env} {φ : Ghost} {Pub : Nat → Nat → Prop} {w w' : World}
theorem adv_below (hp : ∀ b i, Pub b i → b < w.heap.size) (hb : Below w.heap.size w w') : Adv w Pub w' Pub := fun b i h => by
  refine ⟨h, ?_⟩
  simp only [World.cell?, hb.block b (hp b i h)]
theorem Inv.below (I : Inv E [] φ Pub [] w) (e : E.w0 = w) (hb : Below w.heap.size w w') : Inv E [] φ Pub [] w' :=
  I.next hb.os hb.tape hb.output hb.size (fun b h _ => hb.block b (by rw [e] at h; exact h)) (adv_below I.publ hb) (fun _ _ h => .inl h) (fun b i h => Nat.lt_of_lt_of_le (I.publ b i h) hb.size)
    (fun r h => Bool.noConfusion (show false = true from h)) (fun r _ _ h => Bool.noConfusion (show false = true from h)) (fun r _ _ _ _ h => Bool.noConfusion (show false = true from h)) (fun _ h => by cases h)
theorem bytes_R {l : List UInt8} {v : Value} (hp : ∀ b i, Pub b i → b < w.heap.size) (h : RA w Pub φ (EV.bs l).av v) : Bytes w v l := by
  unfold EV.av at h
  unfold RA bytesP RP at h
  obtain ⟨a, c, e, h1, h2, h3, h4⟩ := h
  refine ⟨a, c, e, h1, h2, h3, fun hl => ?_⟩
  rcases h4 with h4 | ⟨b, o, e2, h4⟩
  · omega
  · have g : ∀ i u, l[i]? = some u → w.cell? ⟨b, o + i, none⟩ = some (c8 u) ∧ Pub b (o + i) := fun i u hu => by
      obtain ⟨x, k1, k2, _, k4⟩ := RPc_get h4 (i := i) (x := b8P u) (by rw [List.getElem?_map, hu]; rfl)
      have k4' : x = .int .u8 (u.toNat : Int) := by unfold RP at k4; exact k4
      rw [k1, k4']; exact ⟨rfl, k2⟩
    obtain ⟨u, hu⟩ : ∃ u, l[0]? = some u := by
      cases l with
      | nil => simp at hl
      | cons x l => exact ⟨x, rfl⟩
    exact ⟨b, o, e2, hp b _ (g 0 u hu).2, fun i u hu => (g i u hu).1⟩
end
/-- A function that returns a value without addresses. -/
theorem Cf.of {P : Program} {f : FuncId} {ags : List EV} {u : Value} (hc : callable P f = true)
    (h : ∀ (w : World) (Pub : Nat → Nat → Prop) (φ : Ghost) (vs : List Value), (∀ b i, Pub b i → b < w.heap.size) → RAs w Pub φ (avL ags) vs → Calls P f vs.toArray w fun e w' => e = .returned u ∧ Below w.heap.size w w') : Cf P f [] ags [] (.v u) := by
  refine ⟨hc, fun E φ Pub w vs e1 e2 I hR => (h w Pub φ vs I.publ hR).mono ?_⟩
  rintro e w' ⟨rfl, hb⟩
  exact ⟨u, φ, Pub, rfl, I.below e1 hb, by unfold EV.av RA RP; rfl⟩
/-- A function that returns new bytes, which are the caller's own. -/
theorem Cf.ofRow {P : Program} {f : FuncId} {ags : List EV} {l : List UInt8} {T : TypeId} (hc : callable P f = true)
    (h : ∀ (w : World) (Pub : Nat → Nat → Prop) (φ : Ghost) (vs : List Value), (∀ b i, Pub b i → b < w.heap.size) → RAs w Pub φ (avL ags) vs →
      Calls P f vs.toArray w fun e w' => ∃ p, e = .returned p ∧ w'.ownsRow w.heap.size T 1 p l.length (cells8 l) ∧ Below w.heap.size w w') : Cf P f [] ags [(60, .rb l T 0)] (.osl 60 l.length) := by
  refine ⟨hc, fun E φ Pub w vs e1 e2 I hR => (h w Pub φ vs I.publ hR).mono ?_⟩
  rintro e w' ⟨p, rfl, ho, hb⟩
  have hAdv := adv_below I.publ hb
  have lk : ∀ r, (look OB.dead (obs [(60, EB.rb l T 0)]) r).alive = true → r = 60 := fun r hr => by
    by_cases e : 60 = r
    · exact e.symm
    · simp only [obs, look_cons, if_neg e] at hr; cases hr
  have l60 : look OB.dead (obs [(60, EB.rb l T 0)]) 60 = .row (l.map b8P) T 1 0 := rfl
  rcases ho.2 with ⟨hv, hn⟩ | ⟨g, cap, cur, hv, hg, hbk, hcap, hmax, hsz, htk⟩
  · have hl : l = [] := List.length_eq_zero_iff.1 hn
    subst hl
    refine ⟨p, fun q => if q = 60 then none else φ q, Pub, rfl, ?_, ?_⟩
    · refine I.next hb.os hb.tape hb.output hb.size (fun b h _ => hb.block b (by rw [e1] at h; exact h)) hAdv (fun _ _ h => .inl h) (fun b i h => Nat.lt_of_lt_of_le (I.publ b i h) hb.size) (fun r hr => ?_) (fun r b c hr he => ?_) (fun r r' b c c' hr hr' he he' => ?_) (fun _ h => by cases h)
      · have e := lk r hr; subst e; rw [l60]; exact .inl ⟨if_pos rfl, rfl⟩
      · have e := lk r hr; subst e; simp at he
      · exact (lk r hr).trans (lk r' hr').symm
    · unfold EV.av RA; exact .inr ⟨if_pos rfl, rfl, hv⟩
  · refine ⟨p, fun q => if q = 60 then some (g, cap) else φ q, Pub, rfl, ?_, ?_⟩
    · refine I.next hb.os hb.tape hb.output hb.size (fun b h _ => hb.block b (by rw [e1] at h; exact h)) hAdv (fun _ _ h => .inl h) (fun b i h => Nat.lt_of_lt_of_le (I.publ b i h) hb.size) (fun r hr => ?_) (fun r b c hr he => ?_) (fun r r' b c c' hr hr' he he' => ?_) (fun _ h => by cases h)
      · have e := lk r hr; subst e; rw [l60]
        have hm : (l.map b8P).length = l.length := by simp
        have hc8 : cells8 l = l.map fun c => Value.int .u8 (c.toNat : Int) := rfl
        rw [Nat.mul_one] at htk
        refine .inr ⟨g, cap, cur, (0, 0), if_pos rfl, ⟨hbk, .inl rfl⟩, hmax, hsz, by rw [hm, hsz, Nat.mul_one]; exact hcap, by rw [hm, htk, hc8]; exact b8_RPs l, fun u hu => ?_, fun i hi => ?_⟩
        · rw [hm, htk, hc8, List.mem_map] at hu
          obtain ⟨c, _, rfl⟩ := hu; rfl
        · exact absurd (I.publ _ _ hi) (by omega)
      · have e := lk r hr; subst e; simp at he; rw [e1]; exact .inl (by omega)
      · exact (lk r hr).trans (lk r' hr').symm
    · unfold EV.av RA; exact .inl ⟨g, cap, if_pos rfl, hv, hcap⟩
end Go.Proofs.YtcebndkiagbddaaDoor
