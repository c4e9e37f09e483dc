/- A function that returns new bytes which are then only read; bytes.Join of three parts: contracts. -/
import Derived.Test.YtpcagbfnddgjpaaCHex
namespace Go.Proofs.Ytpcagbfnddgjpaa
open Go.RowKit
set_option linter.unusedVariables false
set_option linter.unusedSimpArgs false

theorem Cf.ofFresh {P : Program} {f : FuncId} {ags : List EV} {l : List UInt8} (hc : callable P f = true)
    (h : ∀ (w : World) (Pub : Nat → Nat → Prop) (φ : Ghost) (vs : List Value), (∀ b i, Pub b i → b < w.heap.size) → RAs w Pub φ (avL ags) vs →
      Calls P f vs.toArray w fun e w' => ∃ p, e = .returned p ∧ Lib.FreshBytes w.heap.size w' p l ∧ Below w.heap.size w w') : Cf P f [] ags [] (.bs l) := by
  refine ⟨hc, fun E φ Pub w vs e1 e2 I hR => (h w Pub φ vs I.publ hR).mono ?_⟩
  rintro e w' ⟨p, rfl, ⟨g, cap, zs, hv, hg, hlc, hmax, hzl, hz, hbs, hcell, hfr⟩, hb⟩
  have hget : ∀ i u, l[i]? = some u → w'.cell? ⟨g, i, none⟩ = some (c8 u) := fun i u hu => by
    obtain ⟨hi, hiu⟩ := List.getElem?_eq_some_iff.1 hu
    have e := hcell i (by omega)
    rw [e]
    have k : (Lib.bytesOf (zs.take l.length))[i]? = some u := by rw [hbs]; exact hu
    unfold Lib.bytesOf at k
    rw [List.getElem?_map, List.getElem?_take, if_pos hi, Option.map_eq_some_iff] at k
    obtain ⟨z, hz1, hz2⟩ := k
    have hb9 := hz z (List.mem_of_getElem? hz1)
    rw [List.getD_eq_getElem?_getD, hz1, Option.getD_some, ← hz2]
    unfold c8
    congr 2
    have : (UInt8.ofNat z.toNat).toNat = z.toNat := by simp; omega
    omega
  have hlt : ∀ i, i < l.length → g < w'.heap.size := fun i hi => by
    have e := hcell i (by omega)
    by_cases q : g < w'.heap.size
    · exact q
    · simp only [World.cell?, Array.getElem?_eq_none (by omega : w'.heap.size ≤ g)] at e
      cases e
  refine ⟨p, φ, fun b i => Pub b i ∨ (b = g ∧ i < l.length), rfl, ?_, ?_⟩
  · refine I.next hb.os hb.tape hb.output hb.size (fun b h _ => hb.block b (by rw [e1] at h; exact h)) (fun b i hp => ⟨.inl hp, ?_⟩) ?_ ?_ (fun r h => Bool.noConfusion (show false = true from h)) (fun r _ _ h => Bool.noConfusion (show false = true from h)) (fun r _ _ _ _ h => Bool.noConfusion (show false = true from h)) (fun _ h => by cases h)
    · simp only [World.cell?, hb.block b (I.publ b i hp)]
    · rintro b i (hp | ⟨rfl, hi⟩)
      · exact .inl hp
      · rw [e1]; exact .inr (.inl hg)
    · rintro b i (hp | ⟨rfl, hi⟩)
      · exact Nat.lt_of_lt_of_le (I.publ b i hp) hb.size
      · exact hlt i hi
  · unfold EV.av RA bytesP RP
    refine ⟨_, cap, hv, hlc, hmax, (fun h => by cases h), ?_⟩
    have hp : ∀ (m : List UInt8) (o : Nat), (∀ i u, m[i]? = some u → w'.cell? ⟨g, o + i, none⟩ = some (c8 u)) → o + m.length = l.length → RPc w' (fun b i => Pub b i ∨ (b = g ∧ i < l.length)) (m.map b8P) g o := by
      intro m
      induction m with
      | nil => intro o _ _; simp only [List.map_nil]; unfold RPc; trivial
      | cons x m ih =>
        intro o hm ho
        rw [List.length_cons] at ho
        rw [List.map_cons]
        unfold RPc
        refine ⟨⟨c8 x, hm 0 x rfl, .inr ⟨rfl, by omega⟩, rfl, by unfold RP; rfl⟩, ih (o + 1) (fun i u hu => ?_) (by omega)⟩
        have := hm (i + 1) u (by simpa using hu)
        rwa [show o + (i + 1) = o + 1 + i from by omega] at this
    exact .inr ⟨g, 0, rfl, hp l 0 (fun i u hu => by rw [Nat.zero_add]; exact hget i u hu) (by omega)⟩
theorem Bytes.holds {w : World} {v : Value} {l : List UInt8} (h : Bytes w v l) : Lib.HoldsBytes w v l := by
  obtain ⟨a, c, rfl, h1, h2, h3, h4⟩ := h
  refine ⟨a, c, rfl, fun e => ?_, fun a' e i u hu => ?_⟩
  · have := h3 e; exact List.eq_nil_of_length_eq_zero (by omega)
  · obtain ⟨b, off, e2, _, hc⟩ := h4 (by have := (List.getElem?_eq_some_iff.1 hu).1; omega)
    rw [e] at e2; cases e2
    have := hc i u hu
    rw [show (⟨b, off, none⟩ : Addr).add i = ⟨b, off + i, none⟩ from by simp [Addr.add], this]
theorem cf_Join3 {a b c : List UInt8} (ha : a.length ≤ 1000000) (hb : b.length ≤ 1000000) (hc : c.length ≤ 1000000) : Cf Try.prog 81 [] [.sl [.bs a, .bs b, .bs c] 3, .nil] [] (.bs (a ++ b ++ c)) :=
  Cf.ofFresh (by kernel_rfl) fun w Pub φ vs hp hR => by
    obtain ⟨u, v, rfl, h1, h2⟩ := ra2 hR
    have e2 := ra_val h2
    subst e2
    unfold EV.av RA at h1
    simp only [pvL] at h1
    unfold RP at h1
    obtain ⟨ad, cap, rfl, hn, hmax, _, h0 | ⟨bk, o, rfl, hr⟩⟩ := h1
    · cases h0
    · unfold RPc at hr
      obtain ⟨⟨u0, c0, p0, _, r0⟩, hr⟩ := hr
      unfold RPc at hr
      obtain ⟨⟨u1, c1, p1, _, r1⟩, hr⟩ := hr
      unfold RPc at hr
      obtain ⟨⟨u2, c2, p2, _, r2⟩, hr⟩ := hr
      have k0 : Bytes w u0 a := bytes_R hp (φ := φ) (by unfold EV.av RA; exact r0)
      have k1 : Bytes w u1 b := bytes_R hp (φ := φ) (by unfold EV.av RA; exact r1)
      have k2 : Bytes w u2 c := bytes_R hp (φ := φ) (by unfold EV.av RA; exact r2)
      refine (Try.bytes_Join_many bk o 3 cap [u0, u1, u2] [a, b, c] (.slice none 0 0) [] w rfl (by decide) ⟨rfl, fun i v hv => ?_, fun i v l hv hl => ?_⟩ hn ⟨none, 0, rfl, fun _ => rfl, fun a h => by cases h⟩ (by decide) (by simp [Lib.lens]; omega)).mono fun e w' ⟨v', h1, h2, h3⟩ => ⟨v', h1, ?_, h3⟩
      · match i, hv with
        | 0, hv => cases hv; simpa [Addr.add] using c0
        | 1, hv => cases hv; simpa [Addr.add] using c1
        | 2, hv => cases hv; simpa [Addr.add] using c2
      · match i, hv, hl with
        | 0, hv, hl => cases hv; cases hl; exact k0.holds
        | 1, hv, hl => cases hv; cases hl; exact k1.holds
        | 2, hv, hl => cases hv; cases hl; exact k2.holds
      · have e : Lib.join [a, b, c] [] = a ++ b ++ c := by simp [Lib.join, List.intercalate, List.intersperse]
        rw [← e]; exact h2
end Go.Proofs.Ytpcagbfnddgjpaa
