/- Functions of the library over strings: contracts. -/
import Derived.Test.YtcebndkiagbddaaDoorCHex
import Derived.Test.YtcebndkiagbddaaDoorLfs
import Derived.Test.YtcebndkiagbddaaDoorLineF
import Derived.Shelf.Strings.SplitCore
import Derived.Shelf.Strings.OnBuilder
namespace Go.Proofs.YtcebndkiagbddaaDoor
open Go.RowKit Go.Lib
set_option linter.unusedVariables false
set_option linter.unusedSimpArgs false

theorem ra3 {w : World} {Pub : Nat → Nat → Prop} {φ : Ghost} {x y z : EV} {vs : List Value} (h : RAs w Pub φ (avL [x, y, z]) vs) : ∃ u v t, vs = [u, v, t] ∧ RA w Pub φ x.av u ∧ RA w Pub φ y.av v ∧ RA w Pub φ z.av t := by
  unfold avL RAs at h
  obtain ⟨u, us, rfl, h1, h2⟩ := h
  obtain ⟨v, t, rfl, h3, h4⟩ := ra2 h2
  exact ⟨u, v, t, rfl, h1, h3, h4⟩
theorem ra4 {w : World} {Pub : Nat → Nat → Prop} {φ : Ghost} {x y z q : EV} {vs : List Value} (h : RAs w Pub φ (avL [x, y, z, q]) vs) : ∃ u v t s, vs = [u, v, t, s] ∧ RA w Pub φ x.av u ∧ RA w Pub φ y.av v ∧ RA w Pub φ z.av t ∧ RA w Pub φ q.av s := by
  unfold avL RAs at h
  obtain ⟨u, us, rfl, h1, h2⟩ := h
  obtain ⟨v, t, s, rfl, h3, h4⟩ := ra3 h2
  exact ⟨u, v, t, s, rfl, h1, h3, h4⟩
theorem ra_lzP {w : World} {Pub : Nat → Nat → Prop} {φ : Ghost} {b off n c sz : Nat} {f : Nat → Nat → EV} (hn : n ≤ c) (hc : c ≤ maxLen) (hsz : 0 < sz)
    (h : ∀ i, i < n → ∀ j, j < sz → ∃ u, w.cell? ⟨b, off + (i * sz + j), none⟩ = some u ∧ Pub b (off + (i * sz + j)) ∧ u.oneCell' = true ∧ RP w Pub (f i j).pv u) : RA w Pub φ (EV.lz n sz f).av (.slice (some ⟨b, off, none⟩) n c) := by
  unfold EV.av EV.pv RA RP
  refine ⟨_, c, rfl, hn, hc, (fun h => by cases h), .inr ⟨b, off, rfl, RPc_of fun k q hq => ?_⟩⟩
  have hk : k < n * sz := by have := (List.getElem?_eq_some_iff.1 hq).1; rw [lz_len] at this; exact this
  have hb : k % sz < sz := Nat.mod_lt _ hsz
  have ha : k / sz < n := (Nat.div_lt_iff_lt_mul hsz).2 hk
  have e : k / sz * sz + k % sz = k := by rw [Nat.mul_comm]; exact Nat.div_add_mod k sz
  have g := lz_get n sz f ha hb
  rw [e, hq] at g
  cases g
  have := h _ ha _ hb
  rw [e] at this; exact this
/-- A function that returns new strings which are then only read. -/
theorem Cf.ofStrs {P : Program} {f : FuncId} {ags : List EV} {L : List (List UInt8)} {T : TypeId} (hc : callable P f = true) (hL : L.length ≤ maxLen)
    (h : ∀ (w : World) (Pub : Nat → Nat → Prop) (φ : Ghost) (vs : List Value), (∀ b i, Pub b i → b < w.heap.size) → RAs w Pub φ (avL ags) vs →
      Calls P f vs.toArray w fun e w' => e = .returned (.slice (some ⟨w.heap.size, 0, none⟩) L.length L.length) ∧ w' = w.alloc (.cells (L.map fun s => Value.string ⟨s.toArray⟩).toArray T)) : Cf P f [] ags [] (strsE L) := by
  refine ⟨hc, fun E φ Pub w vs e1 e2 I hR => (h w Pub φ vs I.publ hR).mono ?_⟩
  rintro e w' ⟨rfl, hw'⟩
  have hb : Below w.heap.size w w' := by rw [hw']; exact below_alloc _ _
  have hnew : w'.heap[w.heap.size]? = some (.cells (L.map fun s => Value.string ⟨s.toArray⟩).toArray T) := by rw [hw']; exact heap_alloc_new w _
  have hlt : w.heap.size < w'.heap.size := (Array.getElem?_eq_some_iff.1 hnew).1
  refine ⟨_, φ, fun b i => Pub b i ∨ (b = w.heap.size ∧ i < L.length), rfl, ?_, ?_⟩
  · refine I.next hb.os hb.tape hb.output hb.size (fun b h _ => hb.block b (by rw [e1] at h; exact h)) (fun b i hp => ⟨.inl hp, ?_⟩) ?_ ?_ (fun r h => Bool.noConfusion (show false = true from h)) (fun r _ _ h => Bool.noConfusion (show false = true from h)) (fun r _ _ _ _ h => Bool.noConfusion (show false = true from h)) (fun _ h => by cases h)
    · simp only [World.cell?, hb.block b (I.publ b i hp)]
    · rintro b i (hp | ⟨rfl, hi⟩)
      · exact .inl hp
      · rw [e1]; exact .inr (.inl (Nat.le_refl _))
    · rintro b i (hp | ⟨rfl, hi⟩)
      · exact Nat.lt_of_lt_of_le (I.publ b i hp) hb.size
      · exact hlt
  · refine ra_lzP (Nat.le_refl _) hL (by decide) fun i hi j hj => ?_
    obtain rfl : j = 0 := by omega
    refine ⟨.string ⟨(L.getD i []).toArray⟩, ?_, .inr ⟨rfl, by omega⟩, rfl, by unfold EV.pv RP; rfl⟩
    rw [Nat.zero_add, Nat.mul_one, Nat.add_zero]
    simp only [World.cell?, hnew]
    rw [List.getD_eq_getElem?_getD, List.getElem?_eq_getElem hi]
    simp [hi]
/-- What a slice of strings holds. -/
theorem strs_R {w : World} {Pub : Nat → Nat → Prop} {φ : Ghost} {L : List (List UInt8)} {v : Value} (h : RA w Pub φ (strsE L).av v) :
    ∃ a c, v = .slice a L.length c ∧ L.length ≤ c ∧ c ≤ maxLen ∧ (L = [] ∨ ∃ b o, a = some ⟨b, o, none⟩ ∧ ∀ (i : Nat) u, L[i]? = some u → w.cell? ⟨b, o + i, none⟩ = some (.string ⟨u.toArray⟩) ∧ Pub b (o + i)) := by
  unfold EV.av EV.pv RA RP at h
  obtain ⟨a, c, rfl, h1, h2, _, h4⟩ := h
  refine ⟨a, c, rfl, h1, h2, ?_⟩
  rcases h4 with h4 | ⟨b, o, rfl, h4⟩
  · exact .inl (List.eq_nil_of_length_eq_zero h4)
  · refine .inr ⟨b, o, rfl, fun i u hu => ?_⟩
    have hi := (List.getElem?_eq_some_iff.1 hu).1
    have g := lz_get L.length 1 (fun i j => EV.s (L.getD i [])) hi (j := 0) (by decide)
    rw [Nat.mul_one, Nat.add_zero] at g
    obtain ⟨x, k1, k2, _, k4⟩ := RPc_get h4 g
    have e : L.getD i [] = u := by rw [List.getD_eq_getElem?_getD, hu]; rfl
    rw [e] at k4
    unfold EV.pv RP at k4
    rw [k1, k4]; exact ⟨rfl, k2⟩
theorem strs_bytes (L : List (List UInt8)) : (L.map fun s => (ByteArray.mk s.toArray)).map (·.data.toList) = L := by
  rw [List.map_map]
  exact (List.map_congr_left (g := id) fun s _ => rfl).trans (List.map_id L)
theorem cf_Index1 {l : List UInt8} {c : UInt8} : Cf Tryd.prog 82 [] [.s l, .s [c]] [] (.i (Lib.indexByte l c)) :=
  Cf.of (by kernel_rfl) fun w Pub φ vs hp hR => by
    obtain ⟨u, v, rfl, h1, h2⟩ := ra2 hR
    have e1 := ra_val h1; have e2 := ra_val h2
    subst e1 e2
    exact (Tryd.strings_Index_one ⟨⟨l⟩⟩ c w).mono fun e w' k => ⟨k.1, by rw [k.2]; exact Below.refl _ _⟩
theorem cf_IndexL1 {l : List UInt8} {c : UInt8} : Cf Tryd.prog 79 [] [.s l, .s [c]] [] (.i (Lib.indexByte l c)) :=
  Cf.of (by kernel_rfl) fun w Pub φ vs hp hR => by
    obtain ⟨u, v, rfl, h1, h2⟩ := ra2 hR
    have e1 := ra_val h1; have e2 := ra_val h2
    subst e1 e2
    exact (Tryd.stringslite_Index_one ⟨⟨l⟩⟩ c w).mono fun e w' k => ⟨k.1, by rw [k.2]; exact Below.refl _ _⟩
theorem cf_Count1 {l : List UInt8} {c : UInt8} : Cf Tryd.prog 81 [] [.s l, .s [c]] [] (.i (l.count c : Nat)) :=
  Cf.of (by kernel_rfl) fun w Pub φ vs hp hR => by
    obtain ⟨u, v, rfl, h1, h2⟩ := ra2 hR
    have e1 := ra_val h1; have e2 := ra_val h2
    subst e1 e2
    exact (Tryd.strings_Count_one ⟨⟨l⟩⟩ c w).mono fun e w' k => ⟨k.1, by rw [k.2]; exact Below.refl _ _⟩
theorem cf_genSplit {l : List UInt8} {c : UInt8} (hl : l.length ≤ 1100000) : Cf Tryd.prog 70 [] [.s l, .s [c], .i 0, .i (-1)] [] (strsE (spl c l)) :=
  Cf.ofStrs (T := 9) (by kernel_rfl) (by rw [spl_len]; have := List.count_le_length (a := c) (l := l); unfold maxLen; omega) fun w Pub φ vs hp hR => by
    obtain ⟨u0, u1, u2, u3, rfl, h0, h1, h2, h3⟩ := ra4 hR
    have e0 := ra_val h0; have e1 := ra_val h1; have e2 := ra_val h2; have e3 := ra_val h3
    subst e0 e1 e2 e3
    have hc : Lib.countB ⟨⟨l⟩⟩ ⟨⟨[c]⟩⟩ = l.count c := Lib.count_one c l
    have hle := List.count_le_length (a := c) (l := l)
    have hsz : (ByteArray.mk (Array.mk l)).size = l.length := rfl
    have all := Lib.splitB_all ⟨⟨[c]⟩⟩ (Nat.le_refl 1) 0 (l.count c) ⟨⟨l⟩⟩ hc
    have e := splitB_one c ⟨⟨l⟩⟩
    have e' : (Lib.splitB ⟨⟨[c]⟩⟩ 0 (l.count c) ⟨⟨l⟩⟩).map (·.data.toList) = spl c l := by rw [← hc]; exact e
    refine (Any.strings_genSplit_core Tryd.lays221 (by kernel_rfl) ⟨⟨l⟩⟩ ⟨⟨[c]⟩⟩ 0 (-1) (l.count c + 1) w (by rw [hsz]; omega) (Nat.le_refl 1) (Nat.zero_le _)
      (fun x cs hx => (Tryd.strings_Index_one x c _).mono fun e w' k => ⟨by rw [k.1]; show _ = Ending.returned (Value.int .i64 (Lib.index x.data.toList [c])); rw [Lib.index_one], k.2⟩)
      ((Tryd.strings_Count_one ⟨⟨l⟩⟩ c w).mono fun e w' k => ⟨by rw [k.1, hc]; rfl, k.2⟩) (by decide) (by decide) (by rw [hc, if_pos (by decide), hsz]; omega)).mono fun e w' k => ?_
    rw [Nat.add_sub_cancel] at k
    obtain ⟨k1, k2⟩ := k
    rw [k1, k2, all, spl_len]
    refine ⟨rfl, ?_⟩
    rw [← all, Lib.cellsOf_full, ← e', List.map_map]
    rfl
set_option maxRecDepth 100000 in
set_option maxHeartbeats 4000000 in
theorem cf_Split {l : List UInt8} {c : UInt8} (hl : l.length ≤ 1100000) : Cf Tryd.prog 53 [] [.s l, .s [c]] [] (strsE (spl c l)) := by
  refine Cf.introR tabT {} D0 (by kernel_rfl) tab_ok Tryd.func53 Tryd.ntmps53 rfl rfl (D0_ok) (by kernel_rfl) ?_
  refine ⟨_, _, _, _, (cf_genSplit (c := c) hl), ?_⟩
  repeat (refine Ob.mk ?_ ?_; (focus (first | (exact Eq.refl _) | (intro hg; ((intro hq; ((simp_all; done))))))))
  trivial
theorem cf_Join {L : List (List UInt8)} {sep : List UInt8} (hL : L.length ≤ 1100000) (hN : (Lib.join L sep).length ≤ 1100000) : Cf Tryd.prog 15 [] [strsE L, .s sep] [] (.s (Lib.join L sep)) :=
  Cf.of (by kernel_rfl) fun w Pub φ vs hp hR => by
    obtain ⟨u, v, rfl, h1, h2⟩ := ra2 hR
    have e2 := ra_val h2
    subst e2
    obtain ⟨a, c, rfl, hn, hm, h⟩ := strs_R h1
    rcases h with rfl | ⟨b, o, rfl, h⟩
    · exact (Tryd.strings_Join_none a c ⟨⟨sep⟩⟩ w).mono fun e w' k => ⟨k.1, by rw [k.2]; exact Below.refl _ _⟩
    · by_cases h0 : L = []
      · subst h0
        exact (Tryd.strings_Join_none _ c ⟨⟨sep⟩⟩ w).mono fun e w' k => ⟨k.1, by rw [k.2]; exact Below.refl _ _⟩
      · have hb : b < w.heap.size := by
          cases L with
          | nil => exact absurd rfl h0
          | cons x xs => exact hp b _ (h 0 x rfl).2
        have k := Tryd.strings_Join b o c (L.map fun s => (ByteArray.mk s.toArray)) ⟨⟨sep⟩⟩ w (fun j x hx => by
          rw [List.getElem?_map, Option.map_eq_some_iff] at hx
          obtain ⟨u, hu, rfl⟩ := hx
          exact (h j u hu).1) hb (by rw [List.length_map]; omega) (by rw [List.length_map]; exact hn) (by rw [strs_bytes]; show (Lib.join L sep).length ≤ _; omega)
        rw [strs_bytes, List.length_map] at k
        exact k
end Go.Proofs.YtcebndkiagbddaaDoor
