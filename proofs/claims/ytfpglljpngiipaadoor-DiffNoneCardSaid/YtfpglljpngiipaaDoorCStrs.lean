/- Functions of the library over strings: contracts. -/
import Derived.Test.YtfpglljpngiipaaDoorCHex
import Derived.Test.YtfpglljpngiipaaDoorLfs
import Derived.Test.YtfpglljpngiipaaDoorLineF
import Derived.Shelf.Strings.SplitCore
import Derived.Shelf.Strings.OnBuilder
namespace Go.Proofs.YtfpglljpngiipaaDoor
open Go.RowKit Go.Lib
set_option linter.unusedVariables false
set_option linter.unusedSimpArgs false

theorem ra3 {w : World} {Pub : Nat → Nat → Prop} {φ : Ghost} {x y z : EV} {vs : List Value} (h : RAs w Pub φ (avL [x, y, z]) vs) : ∃ u v t, vs = [u, v, t] ∧ RA w Pub φ x.av u ∧ RA w Pub φ y.av v ∧ RA w Pub φ z.av t := by
  unfold avL RAs at h
  obtain ⟨u, us, rfl, h1, h2⟩ := h
  obtain ⟨v, t, rfl, h3, h4⟩ := ra2 h2
  exact ⟨u, v, t, rfl, h1, h3, h4⟩
theorem ra4 {w : World} {Pub : Nat → Nat → Prop} {φ : Ghost} {x y z q : EV} {vs : List Value} (h : RAs w Pub φ (avL [x, y, z, q]) vs) : ∃ u v t s, vs = [u, v, t, s] ∧ RA w Pub φ x.av u ∧ RA w Pub φ y.av v ∧ RA w Pub φ z.av t ∧ RA w Pub φ q.av s := by
  unfold avL RAs at h
  obtain ⟨u, us, rfl, h1, h2⟩ := h
  obtain ⟨v, t, s, rfl, h3, h4⟩ := ra3 h2
  exact ⟨u, v, t, s, rfl, h1, h3, h4⟩
theorem ra_lzP {w : World} {Pub : Nat → Nat → Prop} {φ : Ghost} {b off n c sz : Nat} {f : Nat → Nat → EV} (hn : n ≤ c) (hc : c ≤ maxLen) (hsz : 0 < sz)
    (h : ∀ i, i < n → ∀ j, j < sz → ∃ u, w.cell? ⟨b, off + (i * sz + j), none⟩ = some u ∧ Pub b (off + (i * sz + j)) ∧ u.oneCell' = true ∧ RP w Pub (f i j).pv u) : RA w Pub φ (EV.lz n sz f).av (.slice (some ⟨b, off, none⟩) n c) := by
  unfold EV.av EV.pv RA RP
  refine ⟨_, c, rfl, hn, hc, (fun h => by cases h), .inr ⟨b, off, rfl, RPc_of fun k q hq => ?_⟩⟩
  have hk : k < n * sz := by have := (List.getElem?_eq_some_iff.1 hq).1; rw [lz_len] at this; exact this
  have hb : k % sz < sz := Nat.mod_lt _ hsz
  have ha : k / sz < n := (Nat.div_lt_iff_lt_mul hsz).2 hk
  have e : k / sz * sz + k % sz = k := by rw [Nat.mul_comm]; exact Nat.div_add_mod k sz
  have g := lz_get n sz f ha hb
  rw [e, hq] at g
  cases g
  have := h _ ha _ hb
  rw [e] at this; exact this
/-- A function that returns new strings which are then only read. -/
theorem Cf.ofStrs {P : Program} {f : FuncId} {ags : List EV} {L : List (List UInt8)} {T : TypeId} (hc : callable P f = true) (hL : L.length ≤ maxLen)
    (h : ∀ (w : World) (Pub : Nat → Nat → Prop) (φ : Ghost) (vs : List Value), (∀ b i, Pub b i → b < w.heap.size) → RAs w Pub φ (avL ags) vs →
      Calls P f vs.toArray w fun e w' => e = .returned (.slice (some ⟨w.heap.size, 0, none⟩) L.length L.length) ∧ w' = w.alloc (.cells (L.map fun s => Value.string ⟨s.toArray⟩).toArray T)) : Cf P f [] ags [] (strsE L) := by
  refine ⟨hc, fun E φ Pub w vs e1 e2 I hR => (h w Pub φ vs I.publ hR).mono ?_⟩
  rintro e w' ⟨rfl, hw'⟩
  have hb : Below w.heap.size w w' := by rw [hw']; exact below_alloc _ _
  have hnew : w'.heap[w.heap.size]? = some (.cells (L.map fun s => Value.string ⟨s.toArray⟩).toArray T) := by rw [hw']; exact heap_alloc_new w _
  have hlt : w.heap.size < w'.heap.size := (Array.getElem?_eq_some_iff.1 hnew).1
  refine ⟨_, φ, fun b i => Pub b i ∨ (b = w.heap.size ∧ i < L.length), rfl, ?_, ?_⟩
  · refine I.next hb.os hb.tape hb.output hb.size (fun b h _ => hb.block b (by rw [e1] at h; exact h)) (fun b i hp => ⟨.inl hp, ?_⟩) ?_ ?_ (fun r h => Bool.noConfusion (show false = true from h)) (fun r _ _ h => Bool.noConfusion (show false = true from h)) (fun r _ _ _ _ h => Bool.noConfusion (show false = true from h)) (fun _ h => by cases h)
    · simp only [World.cell?, hb.block b (I.publ b i hp)]
    · rintro b i (hp | ⟨rfl, hi⟩)
      · exact .inl hp
      · rw [e1]; exact .inr (.inl (Nat.le_refl _))
    · rintro b i (hp | ⟨rfl, hi⟩)
      · exact Nat.lt_of_lt_of_le (I.publ b i hp) hb.size
      · exact hlt
  · refine ra_lzP (Nat.le_refl _) hL (by decide) fun i hi j hj => ?_
    obtain rfl : j = 0 := by omega
    refine ⟨.string ⟨(L.getD i []).toArray⟩, ?_, .inr ⟨rfl, by omega⟩, rfl, by unfold EV.pv RP; rfl⟩
    rw [Nat.zero_add, Nat.mul_one, Nat.add_zero]
    simp only [World.cell?, hnew]
    rw [List.getD_eq_getElem?_getD, List.getElem?_eq_getElem hi]
    simp [hi]
theorem cf_IndexL1 {l : List UInt8} {c : UInt8} : Cf Tryd.prog 126 [] [.s l, .s [c]] [] (.i (Lib.indexByte l c)) :=
  Cf.of (by kernel_rfl) fun w Pub φ vs hp hR => by
    obtain ⟨u, v, rfl, h1, h2⟩ := ra2 hR
    have e1 := ra_val h1; have e2 := ra_val h2
    subst e1 e2
    exact (Tryd.stringslite_Index_one ⟨⟨l⟩⟩ c w).mono fun e w' k => ⟨k.1, by rw [k.2]; exact Below.refl _ _⟩
theorem cf_genSplit {l : List UInt8} {c : UInt8} (hl : l.length ≤ 1100000) : Cf Tryd.prog 105 [] [.s l, .s [c], .i 0, .i (-1)] [] (strsE (spl c l)) :=
  Cf.ofStrs (T := 9) (by kernel_rfl) (by rw [spl_len]; have := List.count_le_length (a := c) (l := l); unfold maxLen; omega) fun w Pub φ vs hp hR => by
    obtain ⟨u0, u1, u2, u3, rfl, h0, h1, h2, h3⟩ := ra4 hR
    have e0 := ra_val h0; have e1 := ra_val h1; have e2 := ra_val h2; have e3 := ra_val h3
    subst e0 e1 e2 e3
    have hc : Lib.countB ⟨⟨l⟩⟩ ⟨⟨[c]⟩⟩ = l.count c := Lib.count_one c l
    have hle := List.count_le_length (a := c) (l := l)
    have hsz : (ByteArray.mk (Array.mk l)).size = l.length := rfl
    have all := Lib.splitB_all ⟨⟨[c]⟩⟩ (Nat.le_refl 1) 0 (l.count c) ⟨⟨l⟩⟩ hc
    have e := splitB_one c ⟨⟨l⟩⟩
    have e' : (Lib.splitB ⟨⟨[c]⟩⟩ 0 (l.count c) ⟨⟨l⟩⟩).map (·.data.toList) = spl c l := by rw [← hc]; exact e
    refine (Any.strings_genSplit_core Tryd.lays221 (by kernel_rfl) ⟨⟨l⟩⟩ ⟨⟨[c]⟩⟩ 0 (-1) (l.count c + 1) w (by rw [hsz]; omega) (Nat.le_refl 1) (Nat.zero_le _)
      (fun x cs hx => (Tryd.strings_Index_one x c _).mono fun e w' k => ⟨by rw [k.1]; show _ = Ending.returned (Value.int .i64 (Lib.index x.data.toList [c])); rw [Lib.index_one], k.2⟩)
      ((Tryd.strings_Count_one ⟨⟨l⟩⟩ c w).mono fun e w' k => ⟨by rw [k.1, hc]; rfl, k.2⟩) (by decide) (by decide) (by rw [hc, if_pos (by decide), hsz]; omega)).mono fun e w' k => ?_
    rw [Nat.add_sub_cancel] at k
    obtain ⟨k1, k2⟩ := k
    rw [k1, k2, all, spl_len]
    refine ⟨rfl, ?_⟩
    rw [← all, Lib.cellsOf_full, ← e', List.map_map]
    rfl
set_option maxRecDepth 100000 in
set_option maxHeartbeats 4000000 in
theorem cf_Split {l : List UInt8} {c : UInt8} (hl : l.length ≤ 1100000) : Cf Tryd.prog 81 [] [.s l, .s [c]] [] (strsE (spl c l)) := by
  refine Cf.introR tabT {} D0 (by kernel_rfl) tab_ok Tryd.func81 Tryd.ntmps81 rfl rfl (D0_ok) (by kernel_rfl) ?_
  refine ⟨_, _, _, _, (cf_genSplit (c := c) hl), ?_⟩
  repeat (refine Ob.mk ?_ ?_; (focus (first | (exact Eq.refl _) | (intro hg; ((intro hq; ((simp_all; done))))))))
  trivial
end Go.Proofs.YtfpglljpngiipaaDoor
