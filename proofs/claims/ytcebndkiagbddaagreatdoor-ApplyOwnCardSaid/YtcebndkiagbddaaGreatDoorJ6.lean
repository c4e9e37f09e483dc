/- Part 6 of the proof: its texts one behind the other. -/
import Derived.Shelf.Strings.SplitCore
import Derived.Shelf.Strings.OnBuilder
import Derived.Lib.Overlaps
import Derived.Lib.AppendZerosOnto
import Derived.Laws.NewBlocks
import Derived.Laws.IdiomCopy
import Derived.Shelf.Spec.SlicesInsertGrow
import Derived.Test.YtcebndkiagbddaaGreatDoorJ5
namespace Go.Proofs.YtcebndkiagbddaaGreatDoor
open Go.RowKit Go.Lib
set_option linter.unusedVariables false
set_option linter.unusedSimpArgs false

theorem ra3 {w : World} {Pub : Nat → Nat → Prop} {φ : Ghost} {x y z : EV} {vs : List Value} (h : RAs w Pub φ (avL [x, y, z]) vs) : ∃ u v t, vs = [u, v, t] ∧ RA w Pub φ x.av u ∧ RA w Pub φ y.av v ∧ RA w Pub φ z.av t := by
  unfold avL RAs at h
  obtain ⟨u, us, rfl, h1, h2⟩ := h
  obtain ⟨v, t, rfl, h3, h4⟩ := ra2 h2
  exact ⟨u, v, t, rfl, h1, h3, h4⟩
theorem ra4 {w : World} {Pub : Nat → Nat → Prop} {φ : Ghost} {x y z q : EV} {vs : List Value} (h : RAs w Pub φ (avL [x, y, z, q]) vs) : ∃ u v t s, vs = [u, v, t, s] ∧ RA w Pub φ x.av u ∧ RA w Pub φ y.av v ∧ RA w Pub φ z.av t ∧ RA w Pub φ q.av s := by
  unfold avL RAs at h
  obtain ⟨u, us, rfl, h1, h2⟩ := h
  obtain ⟨v, t, s, rfl, h3, h4⟩ := ra3 h2
  exact ⟨u, v, t, s, rfl, h1, h3, h4⟩
theorem ra_lzP {w : World} {Pub : Nat → Nat → Prop} {φ : Ghost} {b off n c sz : Nat} {f : Nat → Nat → EV} (hn : n ≤ c) (hc : c ≤ maxLen) (hsz : 0 < sz)
    (h : ∀ i, i < n → ∀ j, j < sz → ∃ u, w.cell? ⟨b, off + (i * sz + j), none⟩ = some u ∧ Pub b (off + (i * sz + j)) ∧ u.oneCell' = true ∧ RP w Pub (f i j).pv u) : RA w Pub φ (EV.lz n sz f).av (.slice (some ⟨b, off, none⟩) n c) := by
  unfold EV.av EV.pv RA RP
  refine ⟨_, c, rfl, hn, hc, (fun h => by cases h), .inr ⟨b, off, rfl, RPc_of fun k q hq => ?_⟩⟩
  have hk : k < n * sz := by have := (List.getElem?_eq_some_iff.1 hq).1; rw [lz_len] at this; exact this
  have hb : k % sz < sz := Nat.mod_lt _ hsz
  have ha : k / sz < n := (Nat.div_lt_iff_lt_mul hsz).2 hk
  have e : k / sz * sz + k % sz = k := by rw [Nat.mul_comm]; exact Nat.div_add_mod k sz
  have g := lz_get n sz f ha hb
  rw [e, hq] at g
  cases g
  have := h _ ha _ hb
  rw [e] at this; exact this
/-- A function that returns new strings which are then only read. -/
theorem Cf.ofStrs {P : Program} {f : FuncId} {ags : List EV} {L : List (List UInt8)} {T : TypeId} (hc : callable P f = true) (hL : L.length ≤ maxLen)
    (h : ∀ (w : World) (Pub : Nat → Nat → Prop) (φ : Ghost) (vs : List Value), (∀ b i, Pub b i → b < w.heap.size) → RAs w Pub φ (avL ags) vs →
      Calls P f vs.toArray w fun e w' => e = .returned (.slice (some ⟨w.heap.size, 0, none⟩) L.length L.length) ∧ w' = w.alloc (.cells (L.map fun s => Value.string ⟨s.toArray⟩).toArray T)) : Cf P f [] ags [] (strsE L) := by
  refine ⟨hc, fun E φ Pub w vs e1 e2 I hR => (h w Pub φ vs I.publ hR).mono ?_⟩
  rintro e w' ⟨rfl, hw'⟩
  have hb : Below w.heap.size w w' := by rw [hw']; exact below_alloc _ _
  have hnew : w'.heap[w.heap.size]? = some (.cells (L.map fun s => Value.string ⟨s.toArray⟩).toArray T) := by rw [hw']; exact heap_alloc_new w _
  have hlt : w.heap.size < w'.heap.size := (Array.getElem?_eq_some_iff.1 hnew).1
  refine ⟨_, φ, fun b i => Pub b i ∨ (b = w.heap.size ∧ i < L.length), rfl, ?_, ?_⟩
  · refine I.next hb.os hb.tape hb.output hb.size (fun b h _ => hb.block b (by rw [e1] at h; exact h)) (fun b i hp => ⟨.inl hp, ?_⟩) ?_ ?_ (fun r h => Bool.noConfusion (show false = true from h)) (fun r _ _ h => Bool.noConfusion (show false = true from h)) (fun r _ _ _ _ h => Bool.noConfusion (show false = true from h)) (fun _ h => by cases h)
    · simp only [World.cell?, hb.block b (I.publ b i hp)]
    · rintro b i (hp | ⟨rfl, hi⟩)
      · exact .inl hp
      · rw [e1]; exact .inr (.inl (Nat.le_refl _))
    · rintro b i (hp | ⟨rfl, hi⟩)
      · exact Nat.lt_of_lt_of_le (I.publ b i hp) hb.size
      · exact hlt
  · refine ra_lzP (Nat.le_refl _) hL (by decide) fun i hi j hj => ?_
    obtain rfl : j = 0 := by omega
    refine ⟨.string ⟨(L.getD i []).toArray⟩, ?_, .inr ⟨rfl, by omega⟩, rfl, by unfold EV.pv RP; rfl⟩
    rw [Nat.zero_add, Nat.mul_one, Nat.add_zero]
    simp only [World.cell?, hnew]
    rw [List.getD_eq_getElem?_getD, List.getElem?_eq_getElem hi]
    simp [hi]
theorem cf_IndexL1 {l : List UInt8} {c : UInt8} : Cf Tryz.prog 203 [] [.s l, .s [c]] [] (.i (Lib.indexByte l c)) :=
  Cf.of (by kernel_rfl) fun w Pub φ vs hp hR => by
    obtain ⟨u, v, rfl, h1, h2⟩ := ra2 hR
    have e1 := ra_val h1; have e2 := ra_val h2
    subst e1 e2
    exact (Tryz.stringslite_Index_one ⟨⟨l⟩⟩ c w).mono fun e w' k => ⟨k.1, by rw [k.2]; exact Below.refl _ _⟩
theorem cf_genSplit {l : List UInt8} {c : UInt8} (hl : l.length ≤ 1100000) : Cf Tryz.prog 192 [] [.s l, .s [c], .i 0, .i (-1)] [] (strsE (spl c l)) :=
  Cf.ofStrs (T := 9) (by kernel_rfl) (by rw [spl_len]; have := List.count_le_length (a := c) (l := l); unfold maxLen; omega) fun w Pub φ vs hp hR => by
    obtain ⟨u0, u1, u2, u3, rfl, h0, h1, h2, h3⟩ := ra4 hR
    have e0 := ra_val h0; have e1 := ra_val h1; have e2 := ra_val h2; have e3 := ra_val h3
    subst e0 e1 e2 e3
    have hc : Lib.countB ⟨⟨l⟩⟩ ⟨⟨[c]⟩⟩ = l.count c := Lib.count_one c l
    have hle := List.count_le_length (a := c) (l := l)
    have hsz : (ByteArray.mk (Array.mk l)).size = l.length := rfl
    have all := Lib.splitB_all ⟨⟨[c]⟩⟩ (Nat.le_refl 1) 0 (l.count c) ⟨⟨l⟩⟩ hc
    have e := splitB_one c ⟨⟨l⟩⟩
    have e' : (Lib.splitB ⟨⟨[c]⟩⟩ 0 (l.count c) ⟨⟨l⟩⟩).map (·.data.toList) = spl c l := by rw [← hc]; exact e
    refine (Any.strings_genSplit_core Tryz.lays221 (by kernel_rfl) ⟨⟨l⟩⟩ ⟨⟨[c]⟩⟩ 0 (-1) (l.count c + 1) w (by rw [hsz]; omega) (Nat.le_refl 1) (Nat.zero_le _)
      (fun x cs hx => (Tryz.strings_Index_one x c _).mono fun e w' k => ⟨by rw [k.1]; show _ = Ending.returned (Value.int .i64 (Lib.index x.data.toList [c])); rw [Lib.index_one], k.2⟩)
      ((Tryz.strings_Count_one ⟨⟨l⟩⟩ c w).mono fun e w' k => ⟨by rw [k.1, hc]; rfl, k.2⟩) (by decide) (by decide) (by rw [hc, if_pos (by decide), hsz]; omega)).mono fun e w' k => ?_
    rw [Nat.add_sub_cancel] at k
    obtain ⟨k1, k2⟩ := k
    rw [k1, k2, all, spl_len]
    refine ⟨rfl, ?_⟩
    rw [← all, Lib.cellsOf_full, ← e', List.map_map]
    rfl
set_option maxRecDepth 100000 in
set_option maxHeartbeats 4000000 in
theorem cf_Split {l : List UInt8} {c : UInt8} (hl : l.length ≤ 1100000) : Cf Tryz.prog 160 [] [.s l, .s [c]] [] (strsE (spl c l)) := by
  refine Cf.introR tabT {} D0 (by kernel_rfl) tab_ok Tryz.func160 Tryz.ntmps160 rfl rfl (D0_ok) (by kernel_rfl) ?_
  refine ⟨_, _, _, _, (cf_genSplit (c := c) hl), ?_⟩
  repeat (refine Ob.mk ?_ ?_; (focus (first | (exact Eq.refl _) | (intro hg; ((intro hq; ((simp_all; done))))))))
  trivial
end Go.Proofs.YtcebndkiagbddaaGreatDoor

namespace Go.Proofs.YtcebndkiagbddaaGreatDoor
open Go.RowKit
set_option linter.unusedVariables false
set_option linter.unusedSimpArgs false

theorem ln_snoc {n sz : Nat} {f g : Nat → Nat → EV} {m : List EV} (h1 : ∀ a, a < n → ∀ j, j < sz → f a j = g a j) (h2 : ∀ j, j < sz → m.getD j .any = g n j) : ∀ a, a < n + 1 → ∀ j, j < sz → (bif Nat.blt a n then f a j else m.getD ((a - n) * sz + j) .any) = g a j := by
  intro a ha j hj
  by_cases hq : a < n
  · have : Nat.blt a n = true := by simpa [Nat.blt_eq] using hq
    rw [this]; exact h1 a hq j hj
  · obtain rfl : a = n := by omega
    have : Nat.blt a a = false := by cases hb : Nat.blt a a with | false => rfl | true => (rw [Nat.blt_eq] at hb; omega)
    rw [this, Nat.sub_self, Nat.zero_mul, Nat.zero_add]; exact h2 j hj
set_option maxRecDepth 100000 in
set_option maxHeartbeats 4000000 in
theorem cf_LCutInO {l : List UInt8} {c : UInt8} (h : c ∈ l) (hl : l.length ≤ 1100000) : Cf Tryz.prog 183 [] [.s l, .s [c]] [] (.tup [.s (bef c l), .s (aft c l), .b true]) := by
  have hT1 : (((bef c l).length : Nat) : Int).toNat = (bef c l).length := by omega
  have hT2 : (((bef c l).length : Int) + ((([c] : List UInt8).length : Nat) : Int)).toNat = (bef c l).length + 1 := by simp only [List.length_singleton]; omega
  have hT3 : ((([c] : List UInt8).length : Nat) : Int) = 1 := rfl
  have hI := cf_IndexL1 (l := l) (c := c)
  rw [ixb_in h] at hI
  have hle : (bef c l).length + (aft c l).length + 1 = l.length := by rw [← congrArg List.length (bef_aft h)]; simp; omega
  refine Cf.introR tabT {} (DR _ _ _ tabT {}) (by kernel_rfl) tab_ok Tryz.func183 Tryz.ntmps183 rfl rfl (DR_ok tab_ok (by kernel_rfl)) (by kernel_rfl) ?_
  refine ⟨_, _, _, _, hI, ?_⟩
  repeat (refine Ob.mk ?_ ?_; focus ((exact Eq.refl _)))
  refine ⟨fun h1 => ?_, fun h1 => ?_⟩
  · skip
    have c1 := h1
    (simp only [bsX] at c1)
    refine ⟨[0, 0, 3, 0, 0, 0, 32, 112, 248, 7, 1023, 2047], by kernel_rfl, ?_⟩
    repeat (refine Ob.mk ?_ ?_; (focus (first | (rw [hT3]; omega) | (show List.drop ((((bef c l).length : Int) + ((([c] : List UInt8).length : Nat) : Int)).toNat) l = _; rw [hT2]; exact drop_aft h) | (show List.take ((((bef c l).length : Nat) : Int).toNat) l = _; rw [hT1]; exact take_bef h) | (exact Eq.refl _) | omega)))
    trivial
  · skip
    have c1 := h1
    (simp only [bsX] at c1)
    exfalso; simp at h1
set_option maxRecDepth 100000 in
set_option maxHeartbeats 4000000 in
theorem cf_LCutNoO {l : List UInt8} {c : UInt8} (h : c ∉ l) : Cf Tryz.prog 183 [] [.s l, .s [c]] [] (.tup [.s l, .s [], .b false]) := by
  have hI := cf_IndexL1 (l := l) (c := c)
  rw [ixb_out h] at hI
  refine Cf.introR tabT {} (DR _ _ _ tabT {}) (by kernel_rfl) tab_ok Tryz.func183 Tryz.ntmps183 rfl rfl (DR_ok tab_ok (by kernel_rfl)) (by kernel_rfl) ?_
  refine ⟨_, _, _, _, hI, ?_⟩
  repeat (refine Ob.mk ?_ ?_; focus ((exact Eq.refl _)))
  refine ⟨fun h1 => ?_, fun h1 => ?_⟩
  · skip
    have c1 := h1
    (simp only [bsX] at c1)
    exact absurd (show false = true from h1) (by decide)
  · skip
    have c1 := h1
    (simp only [bsX] at c1)
    repeat (refine Ob.mk ?_ ?_; focus ((exact Eq.refl _)))
    trivial
theorem cf_LCut {l : List UInt8} {c : UInt8} (hl : l.length ≤ 1100000) : Cf Tryz.prog 183 [] [.s l, .s [c]] [] (.tup [.s (bef c l), .s (aft c l), .b (decide (c ∈ l))]) := by
  by_cases h : c ∈ l
  · rw [decide_eq_true h]; exact cf_LCutInO h hl
  · rw [decide_eq_false h, bef_out h, aft_out h]; exact cf_LCutNoO h
set_option maxRecDepth 100000 in
set_option maxHeartbeats 4000000 in
theorem cf_Cut1 {l : List UInt8} {c : UInt8} (hl : l.length ≤ 1100000) : Cf Tryz.prog 147 [] [.s l, .s [c]] [] (.tup [.s (bef c l), .s (aft c l), .b (decide (c ∈ l))]) := by
  refine Cf.introR tabT {} D0 (by kernel_rfl) tab_ok Tryz.func147 Tryz.ntmps147 rfl rfl (D0_ok) (by kernel_rfl) ?_
  refine ⟨_, _, _, _, (cf_LCut (l := l) (c := c) hl), ?_⟩
  repeat (refine Ob.mk ?_ ?_; focus ((exact Eq.refl _)))
  trivial
end Go.Proofs.YtcebndkiagbddaaGreatDoor

namespace Go.Proofs.YtcebndkiagbddaaGreatDoor
open Go.RowKit
set_option linter.unusedVariables false
set_option linter.unusedSimpArgs false

abbrev rA (l : List RawS) (i : Nat) : RawS := l.getD i default
theorem rA_in {l : List RawS} (hl : ∀ x ∈ l, x.inn) {i : Nat} (hi : i < l.length) : (rA l i).inn := by
  have e : rA l i = l[i] := by show l.getD i default = l[i]; rw [List.getD_eq_getElem?_getD, List.getElem?_eq_getElem hi]; rfl
  rw [e]; exact hl _ (List.getElem_mem hi)
end Go.Proofs.YtcebndkiagbddaaGreatDoor

namespace Go.Proofs.YtcebndkiagbddaaGreatDoor
open Go.Lib
set_option linter.unusedVariables false
set_option linter.unusedSimpArgs false

/-! ### Nets in order -/
def ltB (p q : List Bool) : Bool := decide (adrN p < adrN q) || (decide (adrN p = adrN q) && decide (p.length < q.length))
theorem ltB_iff {p q : List Bool} : ltB p q = true ↔ adrN p < adrN q ∨ adrN p = adrN q ∧ p.length < q.length := by
  unfold ltB; simp
theorem ltB_trans {p q r : List Bool} (h : ltB p q = true) (k : ltB q r = true) : ltB p r = true := by
  have a := ltB_iff.1 h; have b := ltB_iff.1 k
  exact ltB_iff.2 (by omega)
theorem ltB_tot {p q : List Bool} (hp : p.length ≤ 32) (hn : p ≠ q) (h : ltB p q = false) : ltB q p = true := by
  refine ltB_iff.2 ?_
  have a : ¬ (adrN p < adrN q ∨ adrN p = adrN q ∧ p.length < q.length) := fun k => by rw [ltB_iff.2 k] at h; cases h
  by_cases e : adrN p = adrN q
  · by_cases l : p.length = q.length
    · exact absurd (adrN_inj l hp e) hn
    · omega
  · omega
def ordN (p q : List Bool) : Int := if ltB p q = true then -1 else if p = q then 0 else 1
/-- One more in a row that falls. -/
def insR (x : List Bool) : List (List Bool) → List (List Bool)
  | [] => [x]
  | y :: r => if ltB x y = true then y :: insR x r else x :: y :: r
def sortR (l : List (List Bool)) : List (List Bool) := l.foldl (fun r x => insR x r) []
def sortN (l : List (List Bool)) : List (List Bool) := (sortR l).reverse
theorem insR_perm (x : List Bool) : ∀ r, (insR x r).Perm (x :: r)
  | [] => List.Perm.refl _
  | y :: r => by
    unfold insR
    split
    · exact ((insR_perm x r).cons y).trans (List.Perm.swap x y r)
    · exact List.Perm.refl _
theorem foldR_perm : ∀ (l r : List (List Bool)), (l.foldl (fun r x => insR x r) r).Perm (r ++ l)
  | [], r => by rw [List.append_nil]; exact List.Perm.refl _
  | x :: l, r => by
    refine (foldR_perm l (insR x r)).trans ?_
    refine ((insR_perm x r).append_right l).trans ?_
    exact List.perm_middle.symm
theorem sortN_perm (l : List (List Bool)) : (sortN l).Perm l := (List.reverse_perm _).trans (foldR_perm l [])
theorem sortN_len (l : List (List Bool)) : (sortN l).length = l.length := (sortN_perm l).length_eq
def fallR (r : List (List Bool)) : Prop := r.Pairwise fun a b => ltB b a = true
theorem insR_fall (x : List Bool) : ∀ r : List (List Bool), fallR r → x.length ≤ 32 → x ∉ r → fallR (insR x r)
  | [], _, _, _ => List.pairwise_singleton _ _
  | y :: r, h, hl, hn => by
    obtain ⟨h1, h2⟩ := List.pairwise_cons.1 h
    rw [List.mem_cons, not_or] at hn
    unfold insR
    split
    · next e =>
      refine List.pairwise_cons.2 ⟨fun z hz => ?_, insR_fall x r h2 hl hn.2⟩
      rcases List.mem_cons.1 ((insR_perm x r).mem_iff.1 hz) with k | k
      · rw [k]; exact e
      · exact h1 z k
    · next e =>
      have k : ltB y x = true := ltB_tot hl hn.1 (by cases q : ltB x y; rfl; exact absurd q e)
      refine List.pairwise_cons.2 ⟨fun z hz => ?_, h⟩
      rcases List.mem_cons.1 hz with rfl | hz
      · exact k
      · exact ltB_trans (h1 z hz) k
theorem foldR_fall : ∀ (l r : List (List Bool)), fallR r → (∀ x ∈ l, x.length ≤ 32) → (r ++ l).Nodup → fallR (l.foldl (fun r x => insR x r) r)
  | [], r, h, _, _ => h
  | x :: l, r, h, hl, hn => by
    have hn2 : (insR x r ++ l).Nodup := ((((insR_perm x r).append_right l).trans List.perm_middle.symm).nodup_iff).2 hn
    have hx : x ∉ r := fun k => (List.nodup_append.1 hn).2.2 x k x (by simp) rfl
    exact foldR_fall l (insR x r) (insR_fall x r h (hl x (by simp)) hx) (fun y hy => hl y (by simp [hy])) hn2
def riseN (l : List (List Bool)) : Prop := l.Pairwise fun a b => ltB a b = true
theorem sortN_rise {l : List (List Bool)} (hl : ∀ x ∈ l, x.length ≤ 32) (hn : l.Nodup) : riseN (sortN l) :=
  List.pairwise_reverse.2 (foldR_fall l [] List.Pairwise.nil hl hn)
/-! ### The same, in place -/
def swp (l : List (List Bool)) (j : Nat) : List (List Bool) := (l.set (j + 1) (l.getD j [])).set j (l.getD (j + 1) [])
def insJ : Nat → List (List Bool) → List (List Bool)
  | 0, l => l
  | j + 1, l => if ltB (l.getD (j + 1) []) (l.getD j []) = true then insJ j (swp l j) else l
def insN (l : List (List Bool)) : Nat → List (List Bool)
  | 0 => l
  | k + 1 => insJ (k + 1) (insN l k)
theorem swp_len (l : List (List Bool)) (j : Nat) : (swp l j).length = l.length := by unfold swp; simp
theorem insJ_len : ∀ (j : Nat) (l : List (List Bool)), (insJ j l).length = l.length
  | 0, l => rfl
  | j + 1, l => by
    unfold insJ
    split
    · rw [insJ_len j, swp_len]
    · rfl
theorem insN_len (l : List (List Bool)) : ∀ k, (insN l k).length = l.length
  | 0 => rfl
  | k + 1 => by unfold insN; rw [insJ_len, insN_len l k]
theorem insJ_is (x : List Bool) (post : List (List Bool)) : ∀ (rp post : List (List Bool)), insJ rp.length (rp.reverse ++ x :: post) = (insR x rp).reverse ++ post
  | [], post => rfl
  | y :: rp, post => by
    have e : (y :: rp).reverse ++ x :: post = rp.reverse ++ y :: x :: post := by simp
    rw [e]
    show insJ (rp.length + 1) _ = _
    unfold insJ insR
    have g1 : (rp.reverse ++ y :: x :: post).getD (rp.length + 1) [] = x := by
      rw [List.getD_eq_getElem?_getD, List.getElem?_append_right (by simp)]; simp
    have g2 : (rp.reverse ++ y :: x :: post).getD rp.length [] = y := by
      rw [List.getD_eq_getElem?_getD, List.getElem?_append_right (by simp)]; simp
    rw [g1, g2]
    split
    · have e2 : swp (rp.reverse ++ y :: x :: post) rp.length = rp.reverse ++ x :: (y :: post) := by
        unfold swp
        rw [g1, g2, List.set_append_right _ _ (by simp), List.set_append_right _ _ (by simp)]
        simp
      rw [e2, insJ_is x post rp (y :: post)]
      simp
    · simp
theorem insN_is (l : List (List Bool)) : ∀ k, k < l.length → insN l k = (sortR (l.take (k + 1))).reverse ++ l.drop (k + 1)
  | 0, h => by
    cases l with
    | nil => cases h
    | cons x l => rfl
  | k + 1, h => by
    unfold insN
    rw [insN_is l k (by omega), List.drop_eq_getElem_cons h]
    have hl : (sortR (l.take (k + 1))).length = k + 1 := by
      have := (sortN_len (l.take (k + 1)))
      unfold sortN at this
      rw [List.length_reverse] at this
      rw [this, List.length_take]; omega
    have := insJ_is (l[k + 1]) [] (sortR (l.take (k + 1))) (l.drop (k + 1 + 1))
    rw [hl] at this
    rw [this, List.take_succ_eq_append_getElem (i := k + 1) h]
    unfold sortR
    rw [List.foldl_append]; rfl
theorem insN_end {l : List (List Bool)} {i : Nat} (h : l.length ≤ i) (hi : 1 ≤ i) (k : i = 1 ∨ i ≤ l.length) : insN l (i - 1) = sortN l := by
  cases l with
  | nil => 
    rcases k with k | k
    · subst k; rfl
    · simp at k; omega
  | cons x l =>
    have e : i - 1 < (x :: l).length := by rcases k with k | k <;> simp at h k ⊢ <;> omega
    have e2 : i - 1 + 1 = (x :: l).length := by simp at h e ⊢; omega
    rw [insN_is _ _ e, e2, List.take_length, List.drop_length, List.append_nil]; rfl

/-! ### Peers -/
structure PeerS where
  k : List UInt8
  s : List UInt8
  e : List UInt8
  a : Int
  ns : List (List Bool)
  deriving Inhabited
structure ConfS where
  k : List UInt8
  port : Int
  ps : List PeerS
def peer0 : PeerS := ⟨[], [], [], 0, []⟩
def netC (p : List Bool) : Nat → EV
  | 0 => .u32 (adr p)
  | _ => .i (p.length : Int)
abbrev netsE (ns : List (List Bool)) : EV := .lz ns.length 2 (fun i j => netC (ns.getD i []) j)
def peerC (p : PeerS) : Nat → EV
  | 0 => .s p.k
  | 1 => .s p.s
  | 2 => .s p.e
  | 3 => .i p.a
  | _ => netsE p.ns
abbrev peersE (ps : List PeerS) : EV := .lz ps.length 5 (fun i j => peerC (ps.getD i peer0) j)
abbrev confE (c : ConfS) : EV := .agg [.s c.k, .i c.port, peersE c.ps]
abbrev peerE (p : PeerS) : EV := .agg [.s p.k, .s p.s, .s p.e, .i p.a, netsE p.ns]
/-- May a peer be, by itself? -/
structure PeerOk (p : PeerS) : Prop where
  k : hexC p.k = 0
  s : p.s = [] ∨ (p.s ≠ zs64 ∧ hexC p.s = 0)
  e : p.e = [] ∨ endE p.e = 0
  a : 0 ≤ p.a ∧ p.a ≤ 65535
  nl : p.ns.length ≤ 8
  nb : ∀ n ∈ p.ns, n.length ≤ 32
  ns : riseN p.ns
def keyLt (p q : PeerS) : Prop := Op.bytesLess q.k p.k = false ∧ q.k ≠ p.k
structure ConfOk (c : ConfS) : Prop where
  k : c.k = [] ∨ hexC c.k = 0
  port : 0 ≤ c.port ∧ c.port ≤ 65535
  pl : c.ps.length ≤ 6
  ps : ∀ p ∈ c.ps, PeerOk p ∧ p.k ≠ c.k
  inc : c.ps.Pairwise keyLt
  nd : (c.ps.flatMap (·.ns)).Nodup

/-! ### Of raw things -/
def wr64 (n : Int) : Int := IntKind.i64.wrap n
def nsK (r : RawS) (k : Nat) : List Bool := netP r.k (wr64 (r.a + 5 * (k : Int))) (wr64 (r.b + (k : Int)))
def gath (r : RawS) (met : List (List Bool)) : Nat → List (List Bool)
  | 0 => []
  | k + 1 => if nsK r k ∈ met ++ gath r met k then gath r met k else gath r met k ++ [nsK r k]
theorem gath_len (r : RawS) (met : List (List Bool)) : ∀ k, (gath r met k).length ≤ k
  | 0 => Nat.le_refl _
  | k + 1 => by
    have := gath_len r met k
    unfold gath
    split
    · omega
    · rw [List.length_append]; simp; omega
theorem gath_nd (r : RawS) (met : List (List Bool)) (h : met.Nodup) : ∀ k, (met ++ gath r met k).Nodup
  | 0 => by unfold gath; rw [List.append_nil]; exact h
  | k + 1 => by
    have ih := gath_nd r met h k
    unfold gath
    split
    · exact ih
    · next e =>
      rw [← List.append_assoc]
      refine List.nodup_append.2 ⟨ih, List.pairwise_singleton _ _, fun a ha b hb => ?_⟩
      rw [List.mem_singleton] at hb
      subst hb
      exact fun k => e (by rw [← k]; exact ha)
theorem gath_32 (r : RawS) (met : List (List Bool)) : ∀ k, ∀ n ∈ gath r met k, n.length ≤ 32
  | 0, n, h => by cases h
  | k + 1, n, h => by
    unfold gath at h
    split at h
    · exact gath_32 r met k n h
    · rcases List.mem_append.1 h with h | h
      · exact gath_32 r met k n h
      · rw [List.mem_singleton] at h; rw [h]; exact netP_len
def cntK (r : RawS) : Nat := (pk r.k 4).toNat
def peerR (r : RawS) (i : Nat) (ns : List (List Bool)) : PeerS :=
  ⟨keyN i, if pk r.k 3 = 0 then keyN 7 else [], endL.getD (pk r.a 5).toNat [], pk r.b 100, sortN ns⟩
def delN (met : List (List Bool)) (n : List Bool) : List (List Bool) := met.filter fun m => !decide (m = n)
def confSt (l : List RawS) : Nat → List (List Bool) × List PeerS
  | 0 => ([], [])
  | i + 1 => if 0 < pk (rA l (i + 1)).k 5 then ((confSt l i).1 ++ gath (rA l (i + 1)) (confSt l i).1 (cntK (rA l (i + 1))), (confSt l i).2 ++ [peerR (rA l (i + 1)) (i + 1) (gath (rA l (i + 1)) (confSt l i).1 (cntK (rA l (i + 1))))])
    else ((sortN (gath (rA l (i + 1)) (confSt l i).1 (cntK (rA l (i + 1))))).foldl delN ((confSt l i).1 ++ gath (rA l (i + 1)) (confSt l i).1 (cntK (rA l (i + 1)))), (confSt l i).2)
def confR (l : List RawS) : ConfS := ⟨keyN 0, if l.length = 0 then 0 else pk (rA l 0).a 65536, (confSt l (min (l.length - 1) 6)).2⟩
theorem delF_mem : ∀ (ns met : List (List Bool)) (x : List Bool), x ∈ ns.foldl delN met ↔ x ∈ met ∧ x ∉ ns
  | [], met, x => by simp
  | n :: ns, met, x => by
    show x ∈ ns.foldl delN (delN met n) ↔ _
    rw [delF_mem ns (delN met n) x]
    unfold delN
    simp only [List.mem_filter, List.mem_cons, not_or, Bool.not_eq_true', decide_eq_false_iff_not]
    exact ⟨fun ⟨⟨a, b⟩, c⟩ => ⟨a, b, c⟩, fun ⟨a, b, c⟩ => ⟨⟨a, b⟩, c⟩⟩
theorem delF_nd : ∀ (ns met : List (List Bool)), met.Nodup → (ns.foldl delN met).Nodup
  | [], met, h => h
  | n :: ns, met, h => delF_nd ns _ (h.filter _)
theorem delF_len : ∀ (ns met : List (List Bool)), (ns.foldl delN met).length ≤ met.length
  | [], met => Nat.le_refl _
  | n :: ns, met => Nat.le_trans (delF_len ns _) (List.length_filter_le _ _)
theorem delF_32 (ns met : List (List Bool)) (h : ∀ n ∈ met, n.length ≤ 32) : ∀ n ∈ ns.foldl delN met, n.length ≤ 32 := fun n hn => h n ((delF_mem ns met n).1 hn).1
theorem key_lt : ∀ i, i < 8 → ∀ j, j < 8 → i < j → Op.bytesLess (keyN j) (keyN i) = false ∧ keyN j ≠ keyN i := by
  unfold keyN
  decide +kernel
theorem peerR_ok {r : RawS} {i : Nat} {ns : List (List Bool)} (hi : i < 8) (h3 : ns.length ≤ 8) (hn : ns.Nodup) (h32 : ∀ n ∈ ns, n.length ≤ 32) : PeerOk (peerR r i ns) := by
  refine ⟨keyN_ok i hi, ?_, ?_, ?_, ?_, fun n h => h32 n ((sortN_perm ns).mem_iff.1 h), sortN_rise h32 hn⟩
  · show (if pk r.k 3 = 0 then keyN 7 else []) = [] ∨ _
    by_cases h : pk r.k 3 = 0
    · right
      show (if pk r.k 3 = 0 then keyN 7 else []) ≠ zs64 ∧ hexC (if pk r.k 3 = 0 then keyN 7 else []) = 0
      rw [if_pos h]; exact ⟨key_zs 7 (by decide), keyN_ok 7 (by decide)⟩
    · left; rw [if_neg h]
  · have h1 := pk_ge r.a (m := 5) (by decide); have h2 := pk_lt r.a (m := 5) (by decide)
    show endL.getD (pk r.a 5).toNat [] = [] ∨ endE (endL.getD (pk r.a 5).toNat []) = 0
    by_cases h : (pk r.a 5).toNat = 0
    · left; rw [h]; rfl
    · right; exact end_ok ⟨(pk r.a 5).toNat, by omega⟩ h
  · have h1 := pk_ge r.b (m := 100) (by decide); have h2 := pk_lt r.b (m := 100) (by decide)
    exact ⟨h1, by show pk r.b 100 ≤ 65535; omega⟩
  · show (sortN ns).length ≤ 8
    rw [sortN_len]; exact h3
structure StOk (s : List (List Bool) × List PeerS) (i : Nat) : Prop where
  nd : s.1.Nodup
  len : s.1.length ≤ 3 * i
  b32 : ∀ n ∈ s.1, n.length ≤ 32
  pl : s.2.length ≤ i
  ps : ∀ p ∈ s.2, PeerOk p ∧ ∃ j, 1 ≤ j ∧ j ≤ i ∧ p.k = keyN j
  inc : s.2.Pairwise keyLt
  fl : (s.2.flatMap (·.ns)).Nodup
  sub : ∀ n ∈ s.2.flatMap (·.ns), n ∈ s.1
theorem confSt_ok (l : List RawS) : ∀ i, i ≤ 6 → StOk (confSt l i) i
  | 0, _ => ⟨List.Pairwise.nil, Nat.le_refl _, fun n h => (by cases h), Nat.le_refl _, fun n h => (by cases h), List.Pairwise.nil, List.Pairwise.nil, fun n h => (by cases h)⟩
  | i + 1, hi => by
    have ih := confSt_ok l i (by omega)
    have c3 : cntK (rA l (i + 1)) ≤ 3 := by
      have h2 := pk_lt (rA l (i + 1)).k (m := 4) (by decide)
      unfold cntK; omega
    obtain ⟨ns, hns⟩ : ∃ ns, ns = gath (rA l (i + 1)) (confSt l i).1 (cntK (rA l (i + 1))) := ⟨_, rfl⟩
    have nd := gath_nd (rA l (i + 1)) (confSt l i).1 ih.nd (cntK (rA l (i + 1)))
    have nl := gath_len (rA l (i + 1)) (confSt l i).1 (cntK (rA l (i + 1)))
    have n32 := gath_32 (rA l (i + 1)) (confSt l i).1 (cntK (rA l (i + 1)))
    have hlen := ih.len
    have hpl := ih.pl
    unfold confSt
    rw [← hns] at nd nl n32 ⊢
    obtain ⟨d1, d2, d3⟩ := List.nodup_append.1 nd
    have b32 : ∀ n ∈ (confSt l i).1 ++ ns, n.length ≤ 32 := fun n h => (List.mem_append.1 h).elim (ih.b32 n) (n32 n)
    split
    · refine ⟨nd, by rw [List.length_append]; omega, b32, by rw [List.length_append]; simp; omega, fun p h => ?_, List.pairwise_append.2 ⟨ih.inc, List.pairwise_singleton _ _, fun p hp q hq => ?_⟩, ?_, fun n hn => ?_⟩
      · rcases List.mem_append.1 h with h | h
        · obtain ⟨k1, j, j1, j2, j3⟩ := ih.ps p h
          exact ⟨k1, j, j1, by omega, j3⟩
        · rw [List.mem_singleton] at h
          subst h
          exact ⟨peerR_ok (by omega) (by omega) d2 n32, i + 1, by omega, by omega, rfl⟩
      · rw [List.mem_singleton] at hq
        subst hq
        obtain ⟨_, j, j1, j2, j3⟩ := ih.ps p hp
        have := key_lt j (by omega) (i + 1) (by omega) (by omega)
        unfold keyLt
        rw [j3]
        exact this
      · rw [List.flatMap_append]
        have e : [peerR (rA l (i + 1)) (i + 1) ns].flatMap (·.ns) = sortN ns := by simp [peerR]
        rw [e]
        refine List.nodup_append.2 ⟨ih.fl, (sortN_perm ns).nodup_iff.2 d2, fun a ha b hb k => ?_⟩
        exact d3 a (ih.sub a ha) b ((sortN_perm ns).mem_iff.1 hb) k
      · rw [List.flatMap_append] at hn
        have e : [peerR (rA l (i + 1)) (i + 1) ns].flatMap (·.ns) = sortN ns := by simp [peerR]
        rw [e] at hn
        rcases List.mem_append.1 hn with h | h
        · exact List.mem_append_left _ (ih.sub n h)
        · exact List.mem_append_right _ ((sortN_perm ns).mem_iff.1 h)
    · refine ⟨delF_nd _ _ nd, ?_, delF_32 _ _ b32, by show (confSt l i).2.length ≤ _; omega, fun p h => ?_, ih.inc, ih.fl, fun n hn => ?_⟩
      · have := delF_len (sortN ns) ((confSt l i).1 ++ ns)
        rw [List.length_append] at this
        show ((sortN ns).foldl delN ((confSt l i).1 ++ ns)).length ≤ _
        omega
      · obtain ⟨k1, j, j1, j2, j3⟩ := ih.ps p h
        exact ⟨k1, j, j1, by omega, j3⟩
      · refine (delF_mem _ _ n).2 ⟨List.mem_append_left _ (ih.sub n hn), fun k => ?_⟩
        exact d3 n (ih.sub n hn) n ((sortN_perm ns).mem_iff.1 k) rfl
theorem confR_ok (l : List RawS) : ConfOk (confR l) := by
  have h := confSt_ok l (min (l.length - 1) 6) (by omega)
  have hpl := h.pl
  refine ⟨.inr (keyN_ok 0 (by decide)), ?_, by show (confSt l (min (l.length - 1) 6)).2.length ≤ 6; omega, fun p hp => ?_, h.inc, h.fl⟩
  · show 0 ≤ (if l.length = 0 then 0 else pk (rA l 0).a 65536) ∧ (if l.length = 0 then 0 else pk (rA l 0).a 65536) ≤ 65535
    split
    · decide
    · have h1 := pk_ge (rA l 0).a (m := 65536) (by decide); have h2 := pk_lt (rA l 0).a (m := 65536) (by decide)
      omega
  · obtain ⟨k1, j, j1, j2, j3⟩ := h.ps p hp
    refine ⟨k1, ?_⟩
    rw [j3]
    exact (key_lt 0 (by decide) j (by omega) (by omega)).2
end Go.Proofs.YtcebndkiagbddaaGreatDoor

namespace Go.Proofs.YtcebndkiagbddaaGreatDoor
open Go.RowKit Go.Lib
set_option linter.unusedVariables false
set_option linter.unusedSimpArgs false

theorem small_no {s : List UInt8} (h : ((s.length : Int) < 1 ∨ 5 < (s.length : Int)) ∨ (1 < (s.length : Int) ∧ s.getD 0 0 = 48)) : ¬ numOk s := fun ⟨k1, k2, k3, _⟩ => by
  rcases h with (h | h) | ⟨h, h2⟩
  · omega
  · omega
  · exact k3 (by omega) h2
theorem small_yes {s : List UInt8} (h : ¬ (((s.length : Int) < 1 ∨ 5 < (s.length : Int)) ∨ (1 < (s.length : Int) ∧ s.getD 0 0 = 48))) : 1 ≤ s.length ∧ s.length ≤ 5 ∧ (1 < s.length → s.getD 0 0 ≠ 48) := by
  rw [not_or, not_or, not_and] at h
  exact ⟨by omega, by omega, fun k => h.2 (by omega)⟩
theorem sm_no {s : List UInt8} {most : Int} (h : ¬ numOk s) : smN s = 0 ∧ smE s most = false := by
  unfold smN smE; rw [if_neg h, if_neg h]; exact ⟨rfl, rfl⟩
theorem isD_bad {s : List UInt8} {i : Nat} (hi : i < s.length) (h : isD (s.getD i 0) = false) : ¬ numOk s := fun ⟨_, _, _, k⟩ => by
  rw [List.all_eq_true] at k
  rw [k _ (getD_mem hi)] at h; cases h
theorem isD_no {c : UInt8} (h : c.toNat < 48 ∨ 57 < c.toNat) : isD c = false := by
  unfold isD
  rcases h with k | k
  · rw [decide_eq_false (by omega : ¬ 48 ≤ c.toNat)]; rfl
  · rw [decide_eq_false (by omega : ¬ c.toNat ≤ 57), Bool.and_false]
theorem isD_yes {c : UInt8} (h : ¬ (c.toNat < 48 ∨ 57 < c.toNat)) : isD c = true := by
  unfold isD
  rw [decide_eq_true (by omega : 48 ≤ c.toNat), decide_eq_true (by omega : c.toNat ≤ 57)]; rfl
theorem dec_next {s : List UInt8} {i : Nat} (hi : i < s.length) (h : isD (s.getD i 0) = true) : 10 * ((decV 0 (s.take i) : Nat) : Int) + (((s.getD i 0) - UInt8.ofNat 48).toNat : Int) = ((decV 0 (s.take (i + 1)) : Nat) : Int) := by
  have e : s.take (i + 1) = s.take i ++ [s.getD i 0] := by
    rw [List.take_add_one, List.getElem?_eq_getElem hi, List.getD_eq_getElem?_getD, List.getElem?_eq_getElem hi]; rfl
  have k : 48 ≤ (s.getD i 0).toNat := by unfold isD at h; rw [Bool.and_eq_true, decide_eq_true_eq] at h; exact h.1
  have k2 : (s.getD i 0 - UInt8.ofNat 48).toNat = (s.getD i 0).toNat - 48 := UInt8.toNat_sub_of_le _ _ (by rw [UInt8.le_iff_toNat_le]; exact k)
  rw [e, decV_app, decV_cons, decV_nil, k2]; omega
theorem dec_bd {s : List UInt8} {i : Nat} (h : (s.take i).all isD = true) (hi : i ≤ 5) : decV 0 (s.take i) < 100000 := by
  have a := decV_lt (s.take i) 0 h
  have b : 10 ^ (s.take i).length ≤ 10 ^ 5 := Nat.pow_le_pow_right (by decide) (by rw [List.length_take]; omega)
  omega
set_option maxRecDepth 100000 in
set_option maxHeartbeats 4000000 in
theorem cf_small {s : List UInt8} {most : Int} (hs : s.length ≤ 1100000) : Cf Tryz.prog 184 [] [.s s, .i most] [] (.tup [.i (smN s), .b (smE s most)]) := by
  refine Cf.introR tabT {} D0 (by kernel_rfl) tab_ok Tryz.func184 Tryz.ntmps184 rfl rfl (D0_ok) (by kernel_rfl) ?_
  repeat (refine Ob.mk ?_ ?_; (focus (first | (exact fun hg => beq_f hg) | (exact fun hg => hg) | (intro hg; first | (intro hq; exact and_i hg (beq_t hq)) | (simp at hg; omega)))))
  refine ⟨fun h1 => ?_, fun h1 => ?_⟩
  · skip
    (simp only [Int.reduceToNat, UInt8.reduceOfNat] at h1)
    have c1 := h1
    (simp only [bsX] at c1)
    have hR := sm_no (most := most) (small_no (s := s) (by simpa using h1))
    repeat (refine Ob.mk ?_ ?_; (focus (first | (rw [hR.1]; done) | (rw [hR.2]; done))))
    trivial
  · skip
    (simp only [Int.reduceToNat, UInt8.reduceOfNat] at h1)
    have c1 := h1
    (simp only [bsX] at c1)
    have hG := small_yes (s := s) (by simpa using h1)
    refine ⟨Nat, fun i => ⟨[(0, .s s), (1, .i most), (6, .i (decV 0 (s.take i) : Nat)), (27, .i (s.length : Int)), (28, .i (i : Int))], []⟩, fun i => i ≤ s.length ∧ (s.take i).all isD = true, fun i => s.length - i, 0, (by simp), ?_, fun i hx1 => ?_⟩
    · skip
      repeat (refine Ob.mk ?_ ?_; focus ((exact Eq.refl _)))
      trivial
    refine ⟨fun h2 => ?_, fun h2 => ?_⟩
    · skip
      have c2 := h2
      (simp only [bsX] at c2)
      have hi : i < s.length := by omega
      repeat (refine Ob.mk ?_ ?_; focus (first | omega | (exact fun hg => beq_f hg) | (exact fun hg => hg)))
      refine ⟨fun h3 => ?_, fun h3 => ?_⟩
      · skip
        (simp only [Int.reduceToNat, UInt8.reduceOfNat] at h3)
        have c3 := h3
        (simp only [bsX] at c3)
        have hR := sm_no (most := most) (isD_bad hi (isD_no (by simpa using h3)))
        repeat (refine Ob.mk ?_ ?_; (focus (first | (rw [hR.1]; done) | (rw [hR.2]; done))))
        trivial
      · skip
        (simp only [Int.reduceToNat, UInt8.reduceOfNat] at h3)
        have c3 := h3
        (simp only [bsX] at c3)
        have hD : isD (s.getD i 0) = true := isD_yes (by simpa using h3)
        have hV := dec_next hi hD
        have hA := take_all hi hx1.2 hD
        have hB := dec_bd hx1.2 (by omega)
        have hB2 := dec_bd hA (by omega)
        repeat (refine Ob.mk ?_ ?_; (focus (first | (have := hV; omega) | (simp_all; omega))))
        refine ⟨i + 1, (by (simp_all; omega)), (by (simp only [SrcE.len, Nat.zero_add, List.length_append, List.length_cons, List.length_nil]; omega)), ?_⟩
        repeat (refine Ob.mk ?_ ?_; (focus (first | (have := hV; omega) | (exact Eq.refl _) | assumption)))
        trivial
    · skip
      have c2 := h2
      (simp only [bsX] at c2)
      have hi : i = s.length := by have := hx1.1; omega
      subst hi
      have hA := hx1.2
      rw [List.take_length] at hA
      have hN : numOk s := ⟨hG.1, hG.2.1, hG.2.2, hA⟩
      have hZ : smN s = ((decV 0 s : Nat) : Int) ∧ smE s most = decide (((decV 0 s : Nat) : Int) ≤ most) := by unfold smN smE; rw [if_pos hN, if_pos hN]; exact ⟨rfl, rfl⟩
      repeat (refine Ob.mk ?_ ?_; (focus (first | (rw [hZ.1, List.take_length]; done) | (rw [hZ.2, List.take_length]; done))))
      trivial
def nbN (s : List UInt8) (most : Int) : Int := if smE s most = true then smN s else 0
def nbE (s : List UInt8) (most : Int) : Int := if smE s most = true then 0 else 3
set_option maxRecDepth 100000 in
set_option maxHeartbeats 4000000 in
theorem cf_Number {s : List UInt8} {most : Int} (hs : s.length ≤ 1100000) : Cf Tryz.prog 149 [] [.s s, .i most] [] (.tup [.i (nbN s most), .i (nbE s most)]) := by
  refine Cf.introR tabT {} D0 (by kernel_rfl) tab_ok Tryz.func149 Tryz.ntmps149 rfl rfl (D0_ok) (by kernel_rfl) ?_
  refine ⟨_, _, _, _, (cf_small (s := s) (most := most) hs), ?_⟩
  repeat (refine Ob.mk ?_ ?_; focus ((exact Eq.refl _)))
  refine ⟨fun h1 => ?_, fun h1 => ?_⟩
  · skip
    have c1 := h1
    (simp only [bsX] at c1)
    have hR : nbN s most = 0 ∧ nbE s most = 3 := by unfold nbN nbE; rw [if_neg (by simpa using h1), if_neg (by simpa using h1)]; exact ⟨rfl, rfl⟩
    repeat (refine Ob.mk ?_ ?_; (focus (first | (rw [hR.1]; done) | (rw [hR.2]; done))))
    trivial
  · skip
    have c1 := h1
    (simp only [bsX] at c1)
    have hR : nbN s most = smN s ∧ nbE s most = 0 := by unfold nbN nbE; rw [if_pos (by simpa using h1), if_pos (by simpa using h1)]; exact ⟨rfl, rfl⟩
    repeat (refine Ob.mk ?_ ?_; (focus (first | (rw [hR.1]; done) | (rw [hR.2]; done))))
    trivial
def adA (L : List (List UInt8)) : Nat → Nat
  | 0 => 0
  | i + 1 => adA L i * 256 + decV 0 (L.getD i [])
theorem adA_lt {L : List (List UInt8)} : ∀ {i : Nat}, (∀ j, j < i → smE (L.getD j []) 255 = true) → adA L i < 256 ^ i
  | 0, _ => by show (0 : Nat) < 256 ^ 0; decide
  | i + 1, h => by
    have a := adA_lt (i := i) fun j hj => h j (by omega)
    have b := (sm_ok (h i (by omega))).2.2
    show adA L i * 256 + decV 0 (L.getD i []) < 256 ^ (i + 1)
    rw [Nat.pow_succ]; omega
theorem adr_no4 {s : List UInt8} (h : (spl 46 s).length ≠ 4) : adrR s = (0, 3) := by
  unfold adrR
  split
  · rename_i a b c d e; rw [e] at h; exact absurd rfl h
  · rfl
theorem adr_bad {s : List UInt8} {i : Nat} (h4 : (spl 46 s).length = 4) (hi : i < 4) (h : smE ((spl 46 s).getD i []) 255 = false) : adrR s = (0, 3) := by
  unfold adrR
  split
  · rename_i a b c d e
    rw [e] at h
    refine if_neg fun k => ?_
    match i, hi with
    | 0, _ => exact absurd (k.1.symm.trans h) (by decide)
    | 1, _ => exact absurd (k.2.1.symm.trans h) (by decide)
    | 2, _ => exact absurd (k.2.2.1.symm.trans h) (by decide)
    | 3, _ => exact absurd (k.2.2.2.symm.trans h) (by decide)
  · rfl
theorem adr_good {s : List UInt8} (h4 : (spl 46 s).length = 4) (h : ∀ j, j < 4 → smE ((spl 46 s).getD j []) 255 = true) : adrR s = (adA (spl 46 s) 4, 0) := by
  unfold adrR
  split
  · rename_i a b c d e
    rw [e] at h ⊢
    rw [if_pos ⟨h 0 (by decide), h 1 (by decide), h 2 (by decide), h 3 (by decide)⟩]
    refine Prod.ext ?_ rfl
    show ((decV 0 a * 256 + decV 0 b) * 256 + decV 0 c) * 256 + decV 0 d = (((0 * 256 + decV 0 a) * 256 + decV 0 b) * 256 + decV 0 c) * 256 + decV 0 d
    omega
  · rename_i e
    exfalso
    match q : spl 46 s, h4 with
    | [a, b, c, d], _ => exact e a b c d q
theorem adr_or {x n : Nat} (hx : x < 16777216) (hn : n < 256) : shl32 (UInt32.ofNat x) 8 ||| UInt32.ofNat n = UInt32.ofNat (x * 256 + n) := by
  apply UInt32.toNat_inj.1
  have e1 : (UInt32.ofNat x).toNat = x := by show x % 2 ^ 32 = x; exact Nat.mod_eq_of_lt (by omega)
  have e2 : (UInt32.ofNat n).toNat = n := by show n % 2 ^ 32 = n; exact Nat.mod_eq_of_lt (by omega)
  have e3 : (UInt32.ofNat (x * 256 + n)).toNat = x * 256 + n := by show _ % 2 ^ 32 = _; exact Nat.mod_eq_of_lt (by omega)
  rw [UInt32.toNat_or, e2, e3]
  show (((UInt32.ofNat x).toNat <<< 8) % 2 ^ 32) ||| n = _
  rw [e1, Nat.shiftLeft_eq, Nat.mod_eq_of_lt (by omega)]
  have := Nat.shiftLeft_add_eq_or_of_lt (i := 8) (b := n) (by omega : n < 2 ^ 8) x
  rw [Nat.shiftLeft_eq] at this
  rw [← this]
set_option maxRecDepth 100000 in
set_option maxHeartbeats 4000000 in
theorem cf_adrParse {s : List UInt8} (hl : s.length ≤ 1100000) : Cf Tryz.prog 148 [] [.s s] [] (.tup [.u32 (UInt32.ofNat (adrR s).1), .i (adrR s).2]) := by
  refine Cf.introR tabT {} D0 (by kernel_rfl) tab_ok Tryz.func148 Tryz.ntmps148 rfl rfl (D0_ok) (by kernel_rfl) ?_
  refine ⟨_, _, _, _, (cf_Split (l := s) (c := 46) hl), ?_⟩
  repeat (refine Ob.mk ?_ ?_; focus ((exact Eq.refl _)))
  refine ⟨fun h1 => ?_, fun h1 => ?_⟩
  · skip
    have c1 := h1
    (simp only [bsX] at c1)
    have hR := adr_no4 (s := s) (by omega)
    repeat (refine Ob.mk ?_ ?_; (focus (((rw [hR]; done)))))
    trivial
  · skip
    have c1 := h1
    (simp only [bsX] at c1)
    have h4 : (spl 46 s).length = 4 := by omega
    refine ⟨Nat, fun i => ⟨[(5, .u32 (UInt32.ofNat (adA (spl 46 s) i))), (15, strsE (spl 46 s)), (16, .i ((spl 46 s).length : Int)), (17, .i (i : Int))], []⟩, fun i => i ≤ (spl 46 s).length ∧ ∀ j, j < i → smE ((spl 46 s).getD j []) 255 = true, fun i => (spl 46 s).length - i, 0, ⟨Nat.zero_le _, fun j h => absurd h (Nat.not_lt_zero j)⟩, ?_, fun i hx1 => ?_⟩
    · skip
      repeat (refine Ob.mk ?_ ?_; (focus (first | (exact Eq.refl _) | (intro hg; ((intro hq; ((simp_all; done))))))))
      trivial
    refine ⟨fun h2 => ?_, fun h2 => ?_⟩
    · skip
      have c2 := h2
      (simp only [bsX] at c2)
      have hi : i < (spl 46 s).length := by omega
      have hpl := spl_at (c := 46) (l := s) i
      repeat (refine Ob.mk ?_ ?_; focus (first | assumption | omega))
      refine ⟨_, _, _, _, (cf_small (s := (spl 46 s).getD i []) (most := 255) (by omega)), ?_⟩
      repeat (refine Ob.mk ?_ ?_; focus ((exact Eq.refl _)))
      refine ⟨fun h3 => ?_, fun h3 => ?_⟩
      · skip
        have c3 := h3
        (simp only [bsX] at c3)
        have hR := adr_bad h4 (by omega) (i := i) (by simpa using h3)
        repeat (refine Ob.mk ?_ ?_; (focus (((rw [hR]; done)))))
        trivial
      · skip
        have c3 := h3
        (simp only [bsX] at c3)
        have hE : smE ((spl 46 s).getD i []) 255 = true := by simpa using h3
        obtain ⟨hn1, hn2, hn3⟩ := sm_ok hE
        have hAll : ∀ j, j < i + 1 → smE ((spl 46 s).getD j []) 255 = true := fun j hj => by
          rcases Nat.lt_or_ge j i with q | q
          · exact hx1.2 j q
          · obtain rfl : j = i := by omega
            exact hE
        have hlt := adA_lt hx1.2
        have hp3 : 256 ^ i ≤ 256 ^ 3 := Nat.pow_le_pow_right (by decide) (by omega)
        have hor := adr_or (x := adA (spl 46 s) i) (n := decV 0 ((spl 46 s).getD i [])) (by omega) (by omega)
        have hmod : (((decV 0 ((spl 46 s).getD i []) : Nat) : Int) % 4294967296).toNat = decV 0 ((spl 46 s).getD i []) := by omega
        repeat (refine Ob.mk ?_ ?_; focus (omega))
        refine ⟨i + 1, (by (simp_all; omega)), (by (simp only [SrcE.len, Nat.zero_add, List.length_append, List.length_cons, List.length_nil]; omega)), ?_⟩
        repeat (refine Ob.mk ?_ ?_; (focus (first | (show shl32 (UInt32.ofNat (adA (spl 46 s) i)) 8 ||| UInt32.ofNat ((smN ((spl 46 s).getD i [])) % 4294967296).toNat = _; rw [hn2, hmod]; exact hor) | (exact Eq.refl _) | (intro hg; ((intro hq; ((simp_all; done))))))))
        trivial
    · skip
      have c2 := h2
      (simp only [bsX] at c2)
      have hi : i = (spl 46 s).length := by have := hx1.1; omega
      have hR := adr_good h4 (by rw [hi, h4] at hx1; exact hx1.2)
      have hi4 : i = 4 := by omega
      subst hi4
      repeat (refine Ob.mk ?_ ?_; (focus (((rw [hR]; done)))))
      trivial
def endN (s : List UInt8) : Nat × Int := if endE s = 0 then ((adrR (endA s)).1, smN (endP s)) else (0, 0)
theorem endA_len (s : List UInt8) : (endA s).length ≤ s.length ∧ (endP s).length ≤ s.length := by
  unfold endA endP
  by_cases h : (58 : UInt8) ∈ s
  · rw [if_pos h, if_pos h]
    have := congrArg List.length (bef_aft h)
    rw [List.length_append, List.length_cons] at this
    omega
  · rw [if_neg h, if_neg h]; simp
theorem endA_bef (s : List UInt8) : bef 58 s = endA s ∧ aft 58 s = endP s := by
  unfold endA endP
  by_cases h : (58 : UInt8) ∈ s
  · rw [if_pos h, if_pos h]; exact ⟨rfl, rfl⟩
  · rw [if_neg h, if_neg h, bef_out h, aft_out h]; exact ⟨rfl, rfl⟩
theorem end_no {s : List UInt8} (h : (((58 : UInt8) ∉ s ∨ (adrR (endA s)).2 ≠ 0) ∨ nbE (endP s) 65535 ≠ 0) ∨ nbN (endP s) 65535 = 0) : endE s = 3 ∧ endN s = (0, 0) := by
  have e : endE s = 3 := by
    unfold endE
    refine if_neg fun ⟨k1, k2, k3, k4⟩ => ?_
    have n1 : nbE (endP s) 65535 = 0 := by unfold nbE; rw [if_pos k3]
    have n2 : nbN (endP s) 65535 = smN (endP s) := by unfold nbN; rw [if_pos k3]
    rcases h with ((h | h) | h) | h
    · exact h k1
    · exact h k2
    · exact h n1
    · exact k4 (n2 ▸ h)
  exact ⟨e, by unfold endN; rw [e]; rfl⟩
theorem end_yes {s : List UInt8} (h : ¬ ((((58 : UInt8) ∉ s ∨ (adrR (endA s)).2 ≠ 0) ∨ nbE (endP s) 65535 ≠ 0) ∨ nbN (endP s) 65535 = 0)) : endE s = 0 ∧ endN s = ((adrR (endA s)).1, nbN (endP s) 65535) := by
  rw [not_or, not_or, not_or] at h
  obtain ⟨⟨⟨h1, h2⟩, h3⟩, h4⟩ := h
  have n3 : smE (endP s) 65535 = true := by
    cases q : smE (endP s) 65535 with
    | true => rfl
    | false => exact absurd (by unfold nbE at h3; rw [q] at h3; exact absurd (by decide) h3) h3
  have n2 : nbN (endP s) 65535 = smN (endP s) := by unfold nbN; rw [if_pos n3]
  have e : endE s = 0 := by
    unfold endE
    exact if_pos ⟨Decidable.not_not.1 h1, Decidable.not_not.1 h2, n3, fun q => h4 (n2.trans q)⟩
  exact ⟨e, by unfold endN; rw [if_pos e, n2]⟩
set_option maxRecDepth 100000 in
set_option maxHeartbeats 4000000 in
theorem cf_End {s : List UInt8} (hl : s.length ≤ 1100000) : Cf Tryz.prog 106 [] [.s s] [] (.tup [.u32 (UInt32.ofNat (endN s).1), .i (endN s).2, .i (endE s)]) := by
  have hLn := endA_len s
  have hC := cf_Cut1 (l := s) (c := 58) hl
  rw [(endA_bef s).1, (endA_bef s).2] at hC
  refine Cf.introR tabT {} D0 (by kernel_rfl) tab_ok Tryz.func106 Tryz.ntmps106 rfl rfl (D0_ok) (by kernel_rfl) ?_
  refine ⟨_, _, _, _, hC, ?_⟩
  repeat (refine Ob.mk ?_ ?_; focus ((exact Eq.refl _)))
  refine ⟨_, _, _, _, (cf_adrParse (s := endA s) (by omega)), ?_⟩
  repeat (refine Ob.mk ?_ ?_; focus ((exact Eq.refl _)))
  refine ⟨_, _, _, _, (cf_Number (s := endP s) (most := 65535) (by omega)), ?_⟩
  repeat (refine Ob.mk ?_ ?_; focus (first | (exact Eq.refl _) | (exact fun hg => beq_f hg) | (exact fun hg => hg)))
  refine ⟨fun h1 => ?_, fun h1 => ?_⟩
  · skip
    have c1 := h1
    (simp only [bsX] at c1)
    have hR := end_no (s := s) (by simpa using h1)
    repeat (refine Ob.mk ?_ ?_; (focus (first | (rw [hR.1]; done) | (rw [hR.2]; done))))
    trivial
  · skip
    have c1 := h1
    (simp only [bsX] at c1)
    have hR := end_yes (s := s) (by simpa using h1)
    repeat (refine Ob.mk ?_ ?_; (focus (first | (rw [hR.1]; done) | (rw [hR.2]; done))))
    trivial
end Go.Proofs.YtcebndkiagbddaaGreatDoor

namespace Go.Proofs.YtcebndkiagbddaaGreatDoor
open Go.RowKit
set_option linter.unusedVariables false
set_option linter.unusedSimpArgs false

theorem netEqB {p q : List Bool} (hp : p.length ≤ 32) : (decide (adr p = adr q) && decide ((p.length : Int) = (q.length : Int))) = decide (p = q) := by
  by_cases h : p = q
  · subst h; simp
  · rw [decide_eq_false h]
    cases e : (decide (adr p = adr q) && decide ((p.length : Int) = (q.length : Int))) with
    | false => rfl
    | true =>
      rw [Bool.and_eq_true, decide_eq_true_eq, decide_eq_true_eq] at e
      exact absurd (adr_inj (by omega) hp e.1) h
theorem adr_eqN {p q : List Bool} : adr p = adr q ↔ adrN p = adrN q := by rw [← UInt32.toNat_inj, adr_nat, adr_nat]
theorem ltB_code {p q : List Bool} : (decide ((adr p).toNat < (adr q).toNat) || decide (adr p = adr q) && decide ((p.length : Int) < (q.length : Int))) = ltB p q := by
  unfold ltB
  rw [adr_nat, adr_nat]
  have e : decide (adr p = adr q) = decide (adrN p = adrN q) := decide_eq_decide.2 adr_eqN
  have e2 : decide ((p.length : Int) < (q.length : Int)) = decide (p.length < q.length) := decide_eq_decide.2 Int.ofNat_lt
  rw [e, e2]
theorem ord_lt {p q : List Bool} (h : ltB p q = true) : ordN p q = -1 := if_pos h
theorem ord_eq {p q : List Bool} (h : ltB p q = false) (e : decide (p = q) = true) : ordN p q = 0 := by
  unfold ordN; rw [if_neg (by rw [h]; decide), if_pos (of_decide_eq_true e)]
theorem ord_gt {p q : List Bool} (h : ltB p q = false) (e : decide (p = q) = false) : ordN p q = 1 := by
  unfold ordN; rw [if_neg (by rw [h]; decide), if_neg (of_decide_eq_false e)]
theorem nets_snoc {L M : List (List Bool)} {n : List Bool} {X : List EV} (hX : X = [.u32 (adr n), .i (n.length : Int)]) (hM : M = L ++ [n]) : ∀ a, a < L.length + 1 → ∀ j, j < 2 → (bif Nat.blt a L.length then netC (L.getD a []) j else X.getD ((a - L.length) * 2 + j) .any) = netC (M.getD a []) j := by
  subst hX hM
  refine ln_snoc (f := fun a j => netC (L.getD a []) j) (g := fun a j => netC ((L ++ [n]).getD a []) j) (m := [.u32 (adr n), .i (n.length : Int)]) (sz := 2) (fun b hb j _ => ?_) (fun j hj => ?_)
  · show netC (L.getD b []) j = netC ((L ++ [n]).getD b []) j
    rw [List.getD_eq_getElem?_getD, List.getD_eq_getElem?_getD, List.getElem?_append_left hb]
  · show _ = netC ((L ++ [n]).getD L.length []) j
    rw [List.getD_eq_getElem?_getD (l := L ++ [n]), List.getElem?_append_right (Nat.le_refl _), Nat.sub_self]
    have : j = 0 ∨ j = 1 := by omega
    rcases this with rfl | rfl <;> rfl
theorem peers_snoc {L M : List PeerS} {p : PeerS} {X : List EV} (hX : X = [.s p.k, .s p.s, .s p.e, .i p.a, netsE p.ns]) (hM : M = L ++ [p]) : ∀ a, a < L.length + 1 → ∀ j, j < 5 → (bif Nat.blt a L.length then peerC (L.getD a peer0) j else X.getD ((a - L.length) * 5 + j) .any) = peerC (M.getD a peer0) j := by
  subst hX hM
  refine ln_snoc (f := fun a j => peerC (L.getD a peer0) j) (g := fun a j => peerC ((L ++ [p]).getD a peer0) j) (m := [.s p.k, .s p.s, .s p.e, .i p.a, netsE p.ns]) (sz := 5) (fun b hb j _ => ?_) (fun j hj => ?_)
  · show peerC (L.getD b peer0) j = peerC ((L ++ [p]).getD b peer0) j
    rw [List.getD_eq_getElem?_getD, List.getD_eq_getElem?_getD, List.getElem?_append_left hb]
  · show _ = peerC ((L ++ [p]).getD L.length peer0) j
    rw [List.getD_eq_getElem?_getD (l := L ++ [p]), List.getElem?_append_right (Nat.le_refl _), Nat.sub_self]
    have : j = 0 ∨ j = 1 ∨ j = 2 ∨ j = 3 ∨ j = 4 := by omega
    rcases this with rfl | rfl | rfl | rfl | rfl <;> rfl
theorem eqN {L M : List (List Bool)} (h : L = M) : ∀ a, a < L.length → ∀ b, b < 2 → netC (L.getD a []) b = netC (M.getD a []) b := fun _ _ _ _ => by rw [h]
theorem eqP {L M : List PeerS} (h : L = M) : ∀ a, a < L.length → ∀ b, b < 5 → peerC (L.getD a peer0) b = peerC (M.getD a peer0) b := fun _ _ _ _ => by rw [h]
set_option maxRecDepth 100000 in
set_option maxHeartbeats 4000000 in
theorem cf_order {p q : List Bool} (hp : p.length ≤ 32) : Cf Tryz.prog 53 [] [netE p, netE q] [] (.i (ordN p q)) := by
  refine Cf.introR tabT {} D0 (by kernel_rfl) tab_ok Tryz.func53 Tryz.ntmps53 rfl rfl (D0_ok) (by kernel_rfl) ?_
  repeat (refine Ob.mk ?_ ?_; (focus (first | (exact fun hg => beq_f hg) | (exact fun hg => hg) | (intro hg; ((intro hq; exact and_i hg (beq_t hq)))))))
  refine ⟨fun h1 => ?_, fun h1 => ?_⟩
  · skip
    have c1 := h1
    (simp only [bsX] at c1)
    have hO := ord_lt (ltB_code.symm.trans h1)
    repeat (refine Ob.mk ?_ ?_; focus (exact hO.symm))
    trivial
  · skip
    have c1 := h1
    (simp only [bsX] at c1)
    have hL := ltB_code.symm.trans h1
    refine ⟨fun h2 => ?_, fun h2 => ?_⟩
    · skip
      have c2 := h2
      (simp only [bsX] at c2)
      have hO := ord_eq hL ((netEqB hp).symm.trans h2)
      repeat (refine Ob.mk ?_ ?_; focus (exact hO.symm))
      trivial
    · skip
      have c2 := h2
      (simp only [bsX] at c2)
      have hO := ord_gt hL ((netEqB hp).symm.trans h2)
      repeat (refine Ob.mk ?_ ?_; focus (exact hO.symm))
      trivial
/-- Where a net stands, or -1. -/
def idxN (ns : List (List Bool)) (n : List Bool) : Int := if n ∈ ns then (ns.idxOf n : Int) else -1
theorem idx_at {ns : List (List Bool)} {n : List Bool} {k : Nat} (hk : k < ns.length) (hb : ∀ i, i < k → ns.getD i [] ≠ n) (h : ns.getD k [] = n) : idxN ns n = (k : Int) := by
  have g : ∀ i (hi : i < ns.length), ns.getD i [] = ns[i] := fun i hi => by rw [List.getD_eq_getElem?_getD, List.getElem?_eq_getElem hi]; rfl
  have hm : n ∈ ns := by rw [← h, g k hk]; exact List.getElem_mem hk
  unfold idxN
  rw [if_pos hm]
  have h1 := List.idxOf_lt_length_of_mem hm
  have h2 : ns.idxOf n = k := by
    rcases Nat.lt_trichotomy (ns.idxOf n) k with q | q | q
    · exact absurd ((g _ h1).trans (List.getElem_idxOf h1)) (hb _ q)
    · exact q
    · have := List.not_of_lt_findIdx (p := (· == n)) (xs := ns) (i := k) q
      rw [← g k hk, h] at this
      simp at this
  rw [h2]
theorem idx_no {ns : List (List Bool)} {n : List Bool} (hb : ∀ i, i < ns.length → ns.getD i [] ≠ n) : idxN ns n = -1 := by
  unfold idxN
  rw [if_neg]
  intro h
  obtain ⟨i, hi, e⟩ := List.mem_iff_getElem.1 h
  refine hb i hi ?_
  rw [List.getD_eq_getElem?_getD, List.getElem?_eq_getElem hi]; exact e
theorem idx_mem {ns : List (List Bool)} {n : List Bool} : decide (0 ≤ idxN ns n) = decide (n ∈ ns) := by
  unfold idxN
  by_cases h : n ∈ ns
  · rw [if_pos h]; simp [h]
  · rw [if_neg h]; simp [h]
theorem nsAt_32 {ns : List (List Bool)} (hb : ∀ x ∈ ns, x.length ≤ 32) (i : Nat) : (ns.getD i []).length ≤ 32 := by
  rw [List.getD_eq_getElem?_getD]
  cases h : ns[i]? with
  | none => exact Nat.zero_le _
  | some x => exact hb x (List.mem_of_getElem? h)
set_option maxRecDepth 100000 in
set_option maxHeartbeats 4000000 in
theorem cf_netIdx {ns : List (List Bool)} {n : List Bool} (hl : ns.length ≤ 1000) (hn : n.length ≤ 32) : Cf Tryz.prog 71 [(0, .rz ns.length 2 (fun i j => netC (ns.getD i []) j) 36 0)] [.osl 0 ns.length, netE n] [(0, .rz ns.length 2 (fun i j => netC (ns.getD i []) j) 36 0)] (.i (idxN ns n)) := by
  refine Cf.introR tabT {} (DR _ _ _ tabT {}) (by kernel_rfl) tab_ok Tryz.func71 Tryz.ntmps71 rfl rfl (DR_ok tab_ok (by kernel_rfl)) (by kernel_rfl) ?_
  refine ⟨Nat, fun k => ⟨[(0, .osl 0 ns.length), (3, .own 1003 0), (7, .i (ns.length : Int)), (8, .i (k : Int))], [(0, .rz ns.length 2 (fun i j => netC (ns.getD i []) j) 36 0), (1003, .box [.u32 (adr n), .i (n.length : Int)] 36)]⟩, fun k => k ≤ ns.length ∧ ∀ i, i < k → ns.getD i [] ≠ n, fun k => ns.length - k, 0, ⟨Nat.zero_le _, fun i hi => absurd hi (Nat.not_lt_zero _)⟩, ?_, fun k hx1 => ?_⟩
  · skip
    repeat (refine Ob.mk ?_ ?_; (focus (first | (exact Eq.refl _) | omega | (intro hg; ((intro hq; ((simp_all; done))))))))
    trivial
  refine ⟨fun h1 => ?_, fun h1 => ?_⟩
  · skip
    have c1 := h1
    (simp only [bsX] at c1)
    have hk : k < ns.length := by omega
    refine ⟨[0, 0, 0, 6, 14, 31], by kernel_rfl, ?_⟩
    repeat (refine Ob.mk ?_ ?_; focus (first | assumption | omega))
    refine ⟨fun h2 => ?_, fun h2 => ?_⟩
    · skip
      have c2 := h2
      (simp only [bsX] at c2)
      have hO := idx_at hk hx1.2 (of_decide_eq_true ((netEqB hn).symm.trans h2)).symm
      repeat (refine Ob.mk ?_ ?_; (focus (first | exact hO.symm | (exact Eq.refl _) | omega | (intro hg; ((intro hq; ((simp_all; done))))))))
      trivial
    · skip
      have c2 := h2
      (simp only [bsX] at c2)
      have hO := of_decide_eq_false ((netEqB hn).symm.trans h2)
      repeat (refine Ob.mk ?_ ?_; focus (omega))
      have hnx : k + 1 ≤ ns.length ∧ ∀ i, i < k + 1 → ns.getD i [] ≠ n := ⟨hk, fun i hi => (Nat.lt_or_ge i k).elim (hx1.2 i) fun q e => hO (by rw [← e, show i = k from by omega]; rfl)⟩
      refine ⟨k + 1, (by assumption), (by (simp only [SrcE.len, Nat.zero_add, List.length_append, List.length_cons, List.length_nil]; omega)), ?_⟩
      repeat (refine Ob.mk ?_ ?_; (focus (first | (exact Eq.refl _) | omega | (intro hg; ((intro hq; ((simp_all; done))))))))
      trivial
  · skip
    have c1 := h1
    (simp only [bsX] at c1)
    have hO := idx_no (ns := ns) (n := n) fun i hi => hx1.2 i (by omega)
    repeat (refine Ob.mk ?_ ?_; (focus (first | exact hO.symm | (exact Eq.refl _) | omega | (intro hg; ((intro hq; ((simp_all; done))))))))
    trivial
set_option maxRecDepth 100000 in
set_option maxHeartbeats 4000000 in
theorem cf_netHas {ns : List (List Bool)} {n : List Bool} (hl : ns.length ≤ 1000) (hn : n.length ≤ 32) : Cf Tryz.prog 28 [(0, .rz ns.length 2 (fun i j => netC (ns.getD i []) j) 36 0)] [.osl 0 ns.length, netE n] [(0, .rz ns.length 2 (fun i j => netC (ns.getD i []) j) 36 0)] (.b (decide (n ∈ ns))) := by
  refine Cf.introR tabT {} D0 (by kernel_rfl) tab_ok Tryz.func28 Tryz.ntmps28 rfl rfl (D0_ok) (by kernel_rfl) ?_
  refine ⟨_, _, _, _, (cf_netIdx hl hn), ?_⟩
  repeat (refine Ob.mk ?_ ?_; (focus (first | exact idx_mem | (exact Eq.refl _) | omega | (intro hg; ((intro hq; ((simp_all; done))))))))
  trivial
set_option maxRecDepth 100000 in
set_option maxHeartbeats 4000000 in
theorem cf_isN {p n : List Bool} (hp : p.length ≤ 32) : Cf Tryz.prog 55 [] [netE p, .pp [.u32 (adr n), .i (n.length : Int)] 0] [] (.b (decide (p = n))) := by
  refine Cf.introR tabT {} D0 (by kernel_rfl) tab_ok Tryz.func55 Tryz.ntmps55 rfl rfl (D0_ok) (by kernel_rfl) ?_
  repeat (refine Ob.mk ?_ ?_; focus (exact netEqB hp))
  trivial
set_option maxRecDepth 100000 in
set_option maxHeartbeats 4000000 in
theorem cf_nIdxF {ns : List (List Bool)} {n : List Bool} (hl : ns.length ≤ 1000) (hb : ∀ x ∈ ns, x.length ≤ 32) : Cf Tryz.prog 98 [(0, .rz ns.length 2 (fun i j => netC (ns.getD i []) j) 36 0)] [.osl 0 ns.length, .fn 55 [.pp [.u32 (adr n), .i (n.length : Int)] 0]] [(0, .rz ns.length 2 (fun i j => netC (ns.getD i []) j) 36 0)] (.i (idxN ns n)) := by
  refine Cf.introR tabT {} D0 (by kernel_rfl) tab_ok Tryz.func98 Tryz.ntmps98 rfl rfl (D0_ok) (by kernel_rfl) ?_
  refine ⟨Nat, fun k => ⟨[(0, .osl 0 ns.length), (1, .fn 55 [.pp [.u32 (adr n), .i (n.length : Int)] 0]), (7, .i (ns.length : Int)), (8, .i (k : Int))], [(0, .rz ns.length 2 (fun i j => netC (ns.getD i []) j) 36 0)]⟩, fun k => k ≤ ns.length ∧ ∀ i, i < k → ns.getD i [] ≠ n, fun k => ns.length - k, 0, ⟨Nat.zero_le _, fun i hi => absurd hi (Nat.not_lt_zero _)⟩, ?_, fun k hx1 => ?_⟩
  · skip
    repeat (refine Ob.mk ?_ ?_; (focus (first | (exact Eq.refl _) | omega | (intro hg; ((intro hq; ((simp_all; done))))))))
    trivial
  refine ⟨fun h1 => ?_, fun h1 => ?_⟩
  · skip
    have c1 := h1
    (simp only [bsX] at c1)
    have hk : k < ns.length := by omega
    repeat (refine Ob.mk ?_ ?_; focus (first | assumption | omega))
    refine ⟨_, _, _, _, (cf_isN (n := n) (nsAt_32 hb k)), ?_⟩
    repeat (refine Ob.mk ?_ ?_; focus ((exact Eq.refl _)))
    refine ⟨fun h2 => ?_, fun h2 => ?_⟩
    · skip
      have c2 := h2
      (simp only [bsX] at c2)
      have hO := idx_at hk hx1.2 (of_decide_eq_true h2)
      repeat (refine Ob.mk ?_ ?_; (focus (first | exact hO.symm | (exact Eq.refl _) | omega | (intro hg; ((intro hq; ((simp_all; done))))))))
      trivial
    · skip
      have c2 := h2
      (simp only [bsX] at c2)
      have hO := of_decide_eq_false h2
      repeat (refine Ob.mk ?_ ?_; focus (omega))
      have hnx : k + 1 ≤ ns.length ∧ ∀ i, i < k + 1 → ns.getD i [] ≠ n := ⟨hk, fun i hi => (Nat.lt_or_ge i k).elim (hx1.2 i) fun q e => hO (by rw [← e, show i = k from by omega])⟩
      refine ⟨k + 1, (by assumption), (by (simp only [SrcE.len, Nat.zero_add, List.length_append, List.length_cons, List.length_nil]; omega)), ?_⟩
      repeat (refine Ob.mk ?_ ?_; (focus (first | (exact Eq.refl _) | omega | (intro hg; ((intro hq; ((simp_all; done))))))))
      trivial
  · skip
    have c1 := h1
    (simp only [bsX] at c1)
    have hO := idx_no (ns := ns) (n := n) fun i hi => hx1.2 i (by omega)
    repeat (refine Ob.mk ?_ ?_; (focus (first | exact hO.symm | (exact Eq.refl _) | omega | (intro hg; ((intro hq; ((simp_all; done))))))))
    trivial
theorem cf_nIdxAt {ns : List (List Bool)} {n : List Bool} {k : Int} (hl : ns.length ≤ 1000) (hb : ∀ x ∈ ns, x.length ≤ 32) (h : idxN ns n = k) : Cf Tryz.prog 98 [(0, .rz ns.length 2 (fun i j => netC (ns.getD i []) j) 36 0)] [.osl 0 ns.length, .fn 55 [.pp [.u32 (adr n), .i (n.length : Int)] 0]] [(0, .rz ns.length 2 (fun i j => netC (ns.getD i []) j) 36 0)] (.i k) := h ▸ cf_nIdxF hl hb
set_option maxRecDepth 100000 in
set_option maxHeartbeats 4000000 in
theorem cf_nDelNO {ns : List (List Bool)} {n : List Bool} (hl : ns.length ≤ 1000) (hb : ∀ x ∈ ns, x.length ≤ 32) (hI : idxN ns n = -1) : Cf Tryz.prog 54 [(0, .rz ns.length 2 (fun i j => netC (ns.getD i []) j) 36 0)] [.osl 0 ns.length, .fn 55 [.pp [.u32 (adr n), .i (n.length : Int)] 0]] [(0, .rz ns.length 2 (fun i j => netC (ns.getD i []) j) 36 0)] (.osl 0 ns.length) := by
  refine Cf.introR tabT {} D0 (by kernel_rfl) tab_ok Tryz.func54 Tryz.ntmps54 rfl rfl (D0_ok) (by kernel_rfl) ?_
  refine ⟨_, _, _, _, (cf_nIdxAt hl hb hI), ?_⟩
  repeat (refine Ob.mk ?_ ?_; (focus (first | (exact Eq.refl _) | omega | (intro hg; ((intro hq; ((simp_all; done))))))))
  refine ⟨fun h1 => ?_, fun h1 => ?_⟩
  · skip
    (simp only [Int.reduceToNat, UInt8.reduceOfNat] at h1)
    have c1 := h1
    (simp only [bsX] at c1)
    repeat (refine Ob.mk ?_ ?_; (focus (first | (exact Eq.refl _) | omega | (intro hg; ((intro hq; ((simp_all; done))))))))
    trivial
  · skip
    (simp only [Int.reduceToNat, UInt8.reduceOfNat] at h1)
    have c1 := h1
    (simp only [bsX] at c1)
    exact absurd (show true = false from h1) (by decide)
structure DelI (ns : List (List Bool)) (n : List Bool) (k : Nat) (L : List (List Bool)) : Prop where
  le : k ≤ ns.length
  len : L.length = ns.length
  tk : L.take (delN (ns.take k) n).length = delN (ns.take k) n
  dr : L.drop k = ns.drop k
  lt : (delN (ns.take k) n).length < k
section
variable {ns : List (List Bool)} {n : List Bool} {k : Nat} {L : List (List Bool)}
theorem getD_of {l m : List (List Bool)} {k i : Nat} (h : l.drop k = m.drop k) (hi : k ≤ i) : l.getD i [] = m.getD i [] := by
  have e : ∀ l : List (List Bool), (l.drop k).getD (i - k) [] = l.getD i [] := fun l => by
    rw [List.getD_eq_getElem?_getD, List.getD_eq_getElem?_getD, List.getElem?_drop, show k + (i - k) = i from by omega]
  rw [← e l, ← e m, h]
theorem delN_ne (hk : k < ns.length) (h : ns.getD k [] ≠ n) : delN (ns.take (k + 1)) n = delN (ns.take k) n ++ [ns.getD k []] := by
  rw [List.getD_eq_getElem?_getD, List.getElem?_eq_getElem hk] at h ⊢
  unfold delN
  rw [List.take_succ_eq_append_getElem hk, List.filter_append]
  congr 1
  simpa using h
theorem delN_eq (hk : k < ns.length) (h : ns.getD k [] = n) : delN (ns.take (k + 1)) n = delN (ns.take k) n := by
  rw [List.getD_eq_getElem?_getD, List.getElem?_eq_getElem hk] at h
  unfold delN
  rw [List.take_succ_eq_append_getElem hk, List.filter_append]
  have e : List.filter (fun m => !decide (m = n)) [ns[k]] = [] := by
    have : ns[k] = n := h
    rw [this]; simp
  rw [e, List.append_nil]
theorem DelI.ne (h : DelI ns n k L) (hk : k < ns.length) (e : ns.getD k [] ≠ n) : DelI ns n (k + 1) (L.set (delN (ns.take k) n).length (ns.getD k [])) := by
  have h1 := h.lt; have h2 := h.len
  have hs := delN_ne hk e
  have hl : (delN (ns.take (k + 1)) n).length = (delN (ns.take k) n).length + 1 := by rw [hs]; simp
  refine ⟨hk, by rw [List.length_set]; exact h2, ?_, ?_, by omega⟩
  · rw [hl, hs, List.take_succ_eq_append_getElem (by rw [List.length_set]; omega), List.take_set_of_le (Nat.le_refl _), h.tk]
    simp
  · rw [List.drop_set_of_lt (by omega)]
    have := congrArg (List.drop 1) h.dr
    rw [List.drop_drop, List.drop_drop] at this
    exact this
theorem DelI.eq (h : DelI ns n k L) (hk : k < ns.length) (e : ns.getD k [] = n) : DelI ns n (k + 1) L := by
  have h1 := h.lt
  rw [← delN_eq hk e] at h1
  refine ⟨hk, h.len, by rw [delN_eq hk e]; exact h.tk, ?_, by omega⟩
  have := congrArg (List.drop 1) h.dr
  rw [List.drop_drop, List.drop_drop] at this
  exact this
theorem DelI.fin (h : DelI ns n k L) (hk : k = ns.length) : delN (ns.take k) n = delN ns n ∧ ∀ i, i < (delN ns n).length → L.getD i [] = (delN ns n).getD i [] := by
  subst hk
  have h3 := h.tk
  rw [List.take_length] at h3 ⊢
  refine ⟨rfl, fun i hi => ?_⟩
  have := congrArg (fun l => l.getD i []) h3
  simp only [List.getD_eq_getElem?_getD, List.getElem?_take, if_pos hi] at this
  rw [List.getD_eq_getElem?_getD, this, List.getD_eq_getElem?_getD]
end
theorem stN_set {L M : List (List Bool)} {i m : Nat} {v : List Bool} {X : List EV} (hX : X = [.u32 (adr v), .i (v.length : Int)]) (hi : i < L.length) (hM : M = L.set i v) : ∀ a, a < m → ∀ b, b < 2 → stZ (fun i j => netC (L.getD i []) j) i 0 X a b = netC (M.getD a []) b := by
  intro a _ b hb
  subst hX hM
  unfold stZ
  rw [List.getD_eq_getElem?_getD (l := L.set i v)]
  by_cases e : a = i
  · subst e
    rw [List.getElem?_set_self hi]
    have hq : b = 0 ∨ b = 1 := by omega
    rcases hq with rfl | rfl <;> (simp [netC]; rfl)
  · have : Nat.beq a i = false := by
      cases q : Nat.beq a i with
      | false => rfl
      | true => exact absurd (Nat.eq_of_beq_eq_true q) e
    rw [this, List.getElem?_set_ne (Ne.symm e)]
    simp [List.getD_eq_getElem?_getD]
set_option maxRecDepth 100000 in
set_option maxHeartbeats 4000000 in
theorem cf_nDelYO {ns : List (List Bool)} {n : List Bool} {k0 : Nat} (hl : ns.length ≤ 1000) (hb : ∀ x ∈ ns, x.length ≤ 32) (hI : idxN ns n = (k0 : Int)) (h0 : (delN (ns.take (k0 + 1)) n).length = k0) (hk : DelI ns n (k0 + 1) ns) : Cf Tryz.prog 54 [(0, .rz ns.length 2 (fun i j => netC (ns.getD i []) j) 36 0)] [.osl 0 ns.length, .fn 55 [.pp [.u32 (adr n), .i (n.length : Int)] 0]] [(0, .rz (delN ns n).length 2 (fun i j => netC ((delN ns n).getD i []) j) 36 0)] (.osl 0 (delN ns n).length) := by
  have hk1 := hk.le
  refine Cf.introR tabT {cut := [38, 41]} D0 (by kernel_rfl) tab_ok Tryz.func54 Tryz.ntmps54 rfl rfl (D0_ok) (by kernel_rfl) ?_
  refine ⟨_, _, _, _, (cf_nIdxAt hl hb hI), ?_⟩
  repeat (refine Ob.mk ?_ ?_; (focus (first | (exact Eq.refl _) | omega | (intro hg; ((intro hq; ((simp_all; done))))))))
  refine ⟨fun h1 => ?_, fun h1 => ?_⟩
  · skip
    have c1 := h1
    (simp only [bsX] at c1)
    exact absurd c1 (by omega)
  · skip
    have c1 := h1
    (simp only [bsX] at c1)
    repeat (refine Ob.mk ?_ ?_; focus (omega))
    refine ⟨Nat × List (List Bool), fun s => ⟨[(0, .osl 0 ns.length), (1, .fn 55 [.pp [.u32 (adr n), .i (n.length : Int)] 0]), (5, .i ((delN (ns.take s.1) n).length : Int)), (6, .i (s.1 : Int))], [(0, .rz ns.length 2 (fun i j => netC (s.2.getD i []) j) 36 0)]⟩, fun s => DelI ns n s.1 s.2, fun s => ns.length - s.1, (k0 + 1, ns), hk, ?_, fun s hx1 => ?_⟩
    · skip
      repeat (refine Ob.mk ?_ ?_; (focus (first | (exact Eq.refl _) | omega | (simp only [SrcE.len, Nat.zero_add, List.length_append, List.length_cons, List.length_nil]; omega) | (intro hg; ((intro hq; ((simp_all; done))))))))
      trivial
    refine ⟨fun h2 => ?_, fun h2 => ?_⟩
    · skip
      have c2 := h2
      (simp only [bsX] at c2)
      have hj : s.1 < ns.length := by omega
      have hg : s.2.getD s.1 [] = ns.getD s.1 [] := getD_of hx1.dr (Nat.le_refl _)
      have hlt := hx1.lt
      have hlen := hx1.len
      repeat (refine Ob.mk ?_ ?_; focus (first | assumption | omega))
      refine ⟨_, _, _, _, (cf_isN (n := n) (nsAt_32 hb s.1)), ?_⟩
      repeat (refine Ob.mk ?_ ?_; (focus (first | (rw [Int.toNat_natCast, hg]; done) | (exact Eq.refl _))))
      refine ⟨fun h3 => ?_, fun h3 => ?_⟩
      · skip
        have c3 := h3
        (simp only [bsX] at c3)
        have hz : (if ns.getD s.1 [] = n then s.2 else s.2.set (delN (ns.take s.1) n).length (ns.getD s.1 [])) = s.2.set (delN (ns.take s.1) n).length (ns.getD s.1 []) := if_neg c3
        have hd := delN_ne hj c3
        have hdl : (delN (ns.take (s.1 + 1)) n).length = (delN (ns.take s.1) n).length + 1 := by rw [hd]; simp
        have hnx := hx1.ne hj c3
        rw [← hz] at hnx
        repeat (refine Ob.mk ?_ ?_; focus (omega))
        refine ⟨(s.1 + 1, if ns.getD s.1 [] = n then s.2 else s.2.set (delN (ns.take s.1) n).length (ns.getD s.1 [])), (by assumption), (by (simp only [SrcE.len, Nat.zero_add, List.length_append, List.length_cons, List.length_nil]; omega)), ?_⟩
        repeat (refine Ob.mk ?_ ?_; (focus (first | (exact stN_set (v := s.2.getD s.1 []) rfl (by omega) (hz.trans (congrArg (List.set s.2 (delN (ns.take s.1) n).length) hg.symm))) | (exact Eq.refl _) | omega | (simp only [SrcE.len, Nat.zero_add, List.length_append, List.length_cons, List.length_nil]; omega))))
        trivial
      · skip
        have c3 := h3
        (simp only [bsX] at c3)
        have hz : (if ns.getD s.1 [] = n then s.2 else s.2.set (delN (ns.take s.1) n).length (ns.getD s.1 [])) = s.2 := if_pos c3
        have hd := delN_eq hj c3
        have hnx := hx1.eq hj c3
        rw [← hz] at hnx
        repeat (refine Ob.mk ?_ ?_; focus (omega))
        refine ⟨(s.1 + 1, if ns.getD s.1 [] = n then s.2 else s.2.set (delN (ns.take s.1) n).length (ns.getD s.1 [])), (by assumption), (by (simp only [SrcE.len, Nat.zero_add, List.length_append, List.length_cons, List.length_nil]; omega)), ?_⟩
        repeat (refine Ob.mk ?_ ?_; (focus (first | (exact Eq.refl _) | omega | (intro hg; ((intro hq; ((simp_all; done))))) | (simp_all; done))))
        trivial
    · skip
      have c2 := h2
      (simp only [bsX] at c2)
      have hlt := hx1.lt
      have hle := hx1.le
      have hfin := hx1.fin (by omega)
      repeat (refine Ob.mk ?_ ?_; (focus (first | omega | (intro hg; ((intro hq; ((simp_all; done))))) | (simp_all; done))))
      trivial
theorem idx_is {ns : List (List Bool)} {n : List Bool} (h : n ∈ ns) : ∃ k, k < ns.length ∧ idxN ns n = (k : Int) ∧ ns.getD k [] = n ∧ ∀ i, i < k → ns.getD i [] ≠ n := by
  have h1 := List.idxOf_lt_length_of_mem h
  refine ⟨ns.idxOf n, h1, by unfold idxN; rw [if_pos h], ?_, fun i hi e => ?_⟩
  · rw [List.getD_eq_getElem?_getD, List.getElem?_eq_getElem h1]; exact List.getElem_idxOf h1
  · have := List.not_of_lt_findIdx (p := (· == n)) (xs := ns) (i := i) hi
    rw [List.getD_eq_getElem?_getD, List.getElem?_eq_getElem (by omega)] at e
    have e' : ns[i] = n := e
    rw [e'] at this
    simp at this
theorem delN_pre {ns : List (List Bool)} {n : List Bool} : ∀ k, k ≤ ns.length → (∀ i, i < k → ns.getD i [] ≠ n) → delN (ns.take k) n = ns.take k
  | 0, _, _ => rfl
  | k + 1, hk, h => by
    rw [delN_ne (by omega) (h k (by omega)), delN_pre k (by omega) fun i hi => h i (by omega), List.take_succ_eq_append_getElem (by omega), List.getD_eq_getElem?_getD, List.getElem?_eq_getElem (by omega)]
    rfl
theorem cf_nDel {ns : List (List Bool)} {n : List Bool} (hl : ns.length ≤ 1000) (hb : ∀ x ∈ ns, x.length ≤ 32) : Cf Tryz.prog 54 [(0, .rz ns.length 2 (fun i j => netC (ns.getD i []) j) 36 0)] [.osl 0 ns.length, .fn 55 [.pp [.u32 (adr n), .i (n.length : Int)] 0]] [(0, .rz (delN ns n).length 2 (fun i j => netC ((delN ns n).getD i []) j) 36 0)] (.osl 0 (delN ns n).length) := by
  by_cases h : n ∈ ns
  · obtain ⟨k, h1, h2, h3, h4⟩ := idx_is h
    have e := delN_pre k (by omega) h4
    have e2 := delN_eq h1 h3
    have e3 : (delN (ns.take (k + 1)) n).length = k := by rw [e2, e, List.length_take]; omega
    refine cf_nDelYO hl hb h2 e3 ⟨by omega, rfl, ?_, rfl, by omega⟩
    rw [e3, e2, e]
  · have e : delN ns n = ns := List.filter_eq_self.2 fun x hx => by simp; exact fun k => h (k ▸ hx)
    rw [e]
    exact cf_nDelNO hl hb (by unfold idxN; rw [if_neg h])
end Go.Proofs.YtcebndkiagbddaaGreatDoor

namespace Go.Proofs.YtcebndkiagbddaaGreatDoor
open Go.RowKit Go.Lib
set_option linter.unusedVariables false
set_option linter.unusedSimpArgs false

set_option maxRecDepth 100000 in
set_option maxHeartbeats 4000000 in
theorem cf_nanU {x : UInt32} : Cf Tryz.prog 185 [] [.u32 x] [] (.b false) := by
  refine Cf.introR tabT {} D0 (by kernel_rfl) tab_ok Tryz.func185 Tryz.ntmps185 rfl rfl (D0_ok) (by kernel_rfl) ?_
  repeat (refine Ob.mk ?_ ?_; (focus (((simp; done)))))
  trivial
set_option maxRecDepth 100000 in
set_option maxHeartbeats 4000000 in
theorem cf_nanI {x : Int} : Cf Tryz.prog 186 [] [.i x] [] (.b false) := by
  refine Cf.introR tabT {} D0 (by kernel_rfl) tab_ok Tryz.func186 Tryz.ntmps186 rfl rfl (D0_ok) (by kernel_rfl) ?_
  repeat (refine Ob.mk ?_ ?_; (focus (((simp; done)))))
  trivial
def cmpZ (x y : Int) : Int := if x < y then -1 else if y < x then 1 else 0
set_option maxRecDepth 100000 in
set_option maxHeartbeats 4000000 in
theorem cf_cmpU {x y : UInt32} : Cf Tryz.prog 151 [] [.u32 x, .u32 y] [] (.i (cmpZ (x.toNat : Int) (y.toNat : Int))) := by
  refine Cf.introR tabT {} D0 (by kernel_rfl) tab_ok Tryz.func151 Tryz.ntmps151 rfl rfl (D0_ok) (by kernel_rfl) ?_
  refine ⟨_, _, _, _, (@cf_nanU ?_), ?_⟩
  rotate_left 1
  repeat (refine Ob.mk ?_ ?_; focus ((exact Eq.refl _)))
  refine ⟨_, _, _, _, (@cf_nanU ?_), ?_⟩
  rotate_left 1
  repeat (refine Ob.mk ?_ ?_; focus ((exact Eq.refl _)))
  refine ⟨fun h1 => ?_, fun h1 => ?_⟩
  · skip
    have c1 := h1
    exact absurd (show false = true from h1) (by decide)
  · skip
    (simp only [Int.reduceToNat, UInt8.reduceOfNat] at h1)
    have c1 := h1
    refine ⟨fun h2 => ?_, fun h2 => ?_⟩
    · skip
      have c2 := h2
      exact absurd (show false = true from h2) (by decide)
    · skip
      (simp only [Int.reduceToNat, UInt8.reduceOfNat] at h2)
      have c2 := h2
      refine ⟨fun h3 => ?_, fun h3 => ?_⟩
      · skip
        have c3 := h3
        (simp only [bsX] at c3)
        have hR : cmpZ (x.toNat : Int) (y.toNat : Int) = -1 := if_pos (by omega)
        repeat (refine Ob.mk ?_ ?_; focus (exact hR.symm))
        trivial
      · skip
        have c3 := h3
        (simp only [bsX] at c3)
        refine ⟨fun h4 => ?_, fun h4 => ?_⟩
        · skip
          have c4 := h4
          (simp only [bsX] at c4)
          have hR : cmpZ (x.toNat : Int) (y.toNat : Int) = 1 := (if_neg (by omega)).trans (if_pos (by omega))
          repeat (refine Ob.mk ?_ ?_; focus (exact hR.symm))
          trivial
        · skip
          have c4 := h4
          (simp only [bsX] at c4)
          have hR : cmpZ (x.toNat : Int) (y.toNat : Int) = 0 := (if_neg (by omega)).trans (if_neg (by omega))
          repeat (refine Ob.mk ?_ ?_; focus (exact hR.symm))
          trivial
set_option maxRecDepth 100000 in
set_option maxHeartbeats 4000000 in
theorem cf_cmpI {x y : Int} : Cf Tryz.prog 152 [] [.i x, .i y] [] (.i (cmpZ x y)) := by
  refine Cf.introR tabT {} D0 (by kernel_rfl) tab_ok Tryz.func152 Tryz.ntmps152 rfl rfl (D0_ok) (by kernel_rfl) ?_
  refine ⟨_, _, _, _, (@cf_nanI ?_), ?_⟩
  rotate_left 1
  repeat (refine Ob.mk ?_ ?_; focus ((exact Eq.refl _)))
  refine ⟨_, _, _, _, (@cf_nanI ?_), ?_⟩
  rotate_left 1
  repeat (refine Ob.mk ?_ ?_; focus ((exact Eq.refl _)))
  refine ⟨fun h1 => ?_, fun h1 => ?_⟩
  · skip
    have c1 := h1
    exact absurd (show false = true from h1) (by decide)
  · skip
    (simp only [Int.reduceToNat, UInt8.reduceOfNat] at h1)
    have c1 := h1
    refine ⟨fun h2 => ?_, fun h2 => ?_⟩
    · skip
      have c2 := h2
      exact absurd (show false = true from h2) (by decide)
    · skip
      (simp only [Int.reduceToNat, UInt8.reduceOfNat] at h2)
      have c2 := h2
      refine ⟨fun h3 => ?_, fun h3 => ?_⟩
      · skip
        have c3 := h3
        (simp only [bsX] at c3)
        have hR : cmpZ x y = -1 := if_pos (by omega)
        repeat (refine Ob.mk ?_ ?_; focus (exact hR.symm))
        trivial
      · skip
        have c3 := h3
        (simp only [bsX] at c3)
        refine ⟨fun h4 => ?_, fun h4 => ?_⟩
        · skip
          have c4 := h4
          (simp only [bsX] at c4)
          have hR : cmpZ x y = 1 := (if_neg (by omega)).trans (if_pos (by omega))
          repeat (refine Ob.mk ?_ ?_; focus (exact hR.symm))
          trivial
        · skip
          have c4 := h4
          (simp only [bsX] at c4)
          have hR : cmpZ x y = 0 := (if_neg (by omega)).trans (if_neg (by omega))
          repeat (refine Ob.mk ?_ ?_; focus (exact hR.symm))
          trivial
def orI (a b : Int) : Int := if a = 0 then b else a
theorem or_T {a b : Int} {i : Nat} (hi : i < 2) (h1 : 1 ≤ i → a = 0) (h : ¬ [a, b].getD i 0 = 0) : [a, b].getD i 0 = orI a b := by
  have : i = 0 ∨ i = 1 := by omega
  rcases this with rfl | rfl
  · exact (if_neg h).symm
  · exact (if_pos (h1 (by decide))).symm
theorem or_F {a b : Int} {i : Nat} (hi : i < 2) (h1 : 1 ≤ i → a = 0) (h : [a, b].getD i 0 = 0) : i + 1 ≤ 2 ∧ (1 ≤ i + 1 → a = 0) ∧ (2 ≤ i + 1 → b = 0) := by
  have : i = 0 ∨ i = 1 := by omega
  rcases this with rfl | rfl
  · exact ⟨by omega, fun _ => h, fun k => absurd k (by decide)⟩
  · exact ⟨by omega, fun _ => h1 (by decide), fun _ => h⟩
theorem or_0 {a b : Int} (h1 : a = 0) (h2 : b = 0) : orI a b = 0 := by rw [h1, h2]; rfl
set_option maxRecDepth 100000 in
set_option maxHeartbeats 4000000 in
theorem cf_cmpOr {a b : Int} : Cf Tryz.prog 150 [] [.sl [.i a, .i b] 2] [] (.i (orI a b)) := by
  refine Cf.introR tabT {sel := [10]} D0 (by kernel_rfl) tab_ok Tryz.func150 Tryz.ntmps150 rfl rfl (D0_ok) (by kernel_rfl) ?_
  refine ⟨Nat, fun i => ⟨[(3, .i 0), (6, .sl [.i a, .i b] 2), (7, .i 2), (8, .i (i : Int))], []⟩, fun i => i ≤ 2 ∧ (1 ≤ i → a = 0) ∧ (2 ≤ i → b = 0), fun i => 2 - i, 0, by omega, ?_, fun i hx1 => ?_⟩
  · skip
    repeat (refine Ob.mk ?_ ?_; focus ((exact Eq.refl _)))
    trivial
  refine ⟨fun h1 => ?_, fun h1 => ?_⟩
  · skip
    have c1 := h1
    (simp only [bsX] at c1)
    have hi : i < 2 := by omega
    repeat (refine Ob.mk ?_ ?_; focus (first | assumption | omega))
    refine ⟨fun h2 => ?_, fun h2 => ?_⟩
    · skip
      have c2 := h2
      (simp only [bsX] at c2)
      have hR := or_T hi hx1.2.1 c2
      repeat (refine Ob.mk ?_ ?_; focus (exact hR))
      trivial
    · skip
      have c2 := h2
      (simp only [bsX] at c2)
      have hnx := or_F hi hx1.2.1 c2
      repeat (refine Ob.mk ?_ ?_; focus (omega))
      refine ⟨i + 1, (by assumption), (by (simp only [SrcE.len, Nat.zero_add, List.length_append, List.length_cons, List.length_nil]; omega)), ?_⟩
      repeat (refine Ob.mk ?_ ?_; focus ((exact Eq.refl _)))
      trivial
  · skip
    have c1 := h1
    (simp only [bsX] at c1)
    have hR : 0 = orI a b := (or_0 (hx1.2.1 (by omega)) (hx1.2.2 (by omega))).symm
    repeat (refine Ob.mk ?_ ?_; focus (exact hR))
    trivial
def cmpP (p q : List Bool) : Int := orI (cmpZ ((adr p).toNat : Int) ((adr q).toNat : Int)) (cmpZ (p.length : Int) (q.length : Int))
set_option maxRecDepth 100000 in
set_option maxHeartbeats 4000000 in
theorem cf_nCompare {p q : List Bool} : Cf Tryz.prog 107 [] [netE p, netE q] [] (.i (cmpP p q)) := by
  refine Cf.introR tabT {} (DR _ _ _ tabT {}) (by kernel_rfl) tab_ok Tryz.func107 Tryz.ntmps107 rfl rfl (DR_ok tab_ok (by kernel_rfl)) (by kernel_rfl) ?_
  refine ⟨[0, 1, 0, 4, 15, 0, 32, 0, 128, 511, 1023, 2047, 4095], by kernel_rfl, ?_⟩
  refine ⟨_, _, _, _, (@cf_cmpU ?_ ?_), ?_⟩
  rotate_left 2
  repeat (refine Ob.mk ?_ ?_; focus ((exact Eq.refl _)))
  refine ⟨_, _, _, _, (@cf_cmpI ?_ ?_), ?_⟩
  rotate_left 2
  repeat (refine Ob.mk ?_ ?_; focus ((exact Eq.refl _)))
  refine ⟨_, _, _, _, (@cf_cmpOr ?_ ?_), ?_⟩
  rotate_left 2
  repeat (refine Ob.mk ?_ ?_; focus ((exact Eq.refl _)))
  trivial
theorem cmpP_lt {p q : List Bool} (h : ltB p q = true) : cmpP p q = -1 := by
  unfold cmpP
  rw [adr_nat, adr_nat]
  rcases ltB_iff.1 h with k | ⟨k1, k2⟩
  · have e : cmpZ (adrN p : Int) (adrN q : Int) = -1 := if_pos (by omega)
    rw [e]; rfl
  · have e : cmpZ (adrN p : Int) (adrN q : Int) = 0 := (if_neg (by omega)).trans (if_neg (by omega))
    have e2 : cmpZ (p.length : Int) (q.length : Int) = -1 := if_pos (by omega)
    rw [e, e2]; rfl
theorem cf_hexOk {k : List UInt8} (h : hexC k = 0) : Cf Tryz.prog 62 [] [.s k] [] (.i 0) := h ▸ cf_hexCheck
theorem cf_endOk {s : List UInt8} (h : endE s = 0) : Cf Tryz.prog 106 [] [.s s] [] (.tup [.u32 (UInt32.ofNat (endN s).1), .i (endN s).2, .i 0]) := by
  have hl := (endE_okV h).2
  have := cf_End (s := s) (by omega)
  rw [h] at this
  exact this
theorem zs_rep2 : Go.Lib.repeatL [48] 64 = zs64 := by decide +kernel
theorem cf_zsR : Cf Tryz.prog 75 [] [.s [48], .i 64] [] (.s zs64) := by
  have := cf_Repeat (l := [48]) (c := 64) (by decide) (by decide)
  rw [zs_rep2] at this; exact this
theorem rise_at {l : List (List Bool)} (h : riseN l) {i : Nat} (h0 : 0 < i) (hi : i < l.length) : ltB (l.getD (i - 1) []) (l.getD i []) = true := by
  rw [List.getD_eq_getElem?_getD, List.getD_eq_getElem?_getD, List.getElem?_eq_getElem hi, List.getElem?_eq_getElem (by omega)]
  exact List.pairwise_iff_getElem.1 h (i - 1) i (by omega) hi (by omega)
theorem nsAt_ok {p : PeerS} (h : PeerOk p) (i : Nat) : (p.ns.getD i []).length ≤ 32 := nsAt_32 h.nb i
set_option maxRecDepth 100000 in
set_option maxHeartbeats 4000000 in
theorem cf_RightO {p : PeerS} (h : PeerOk p) : Cf Tryz.prog 63 [] [peerE p] [] (.i 0) := by
  have hnl := h.nl
  have ha := h.a
  refine Cf.introR tabT {} (DR _ _ _ tabT {}) (by kernel_rfl) tab_ok Tryz.func63 Tryz.ntmps63 rfl rfl (DR_ok tab_ok (by kernel_rfl)) (by kernel_rfl) ?_
  refine ⟨_, _, _, _, (cf_hexOk h.k), ?_⟩
  repeat (refine Ob.mk ?_ ?_; focus ((exact Eq.refl _)))
  refine knF ?_
  refine ⟨fun h2 => ?_, fun h2 => ?_⟩
  · skip
    have c2 := h2
    (simp only [bsX] at c2)
    have hs := h.s.resolve_left c2
    refine ⟨_, _, _, _, (cf_hexOk hs.2), ?_⟩
    repeat (refine Ob.mk ?_ ?_; focus ((exact Eq.refl _)))
    refine knF ?_
    refine ⟨[0, 1, 0, 7], by kernel_rfl, ?_⟩
    refine ⟨_, _, _, _, cf_zsR, ?_⟩
    repeat (refine Ob.mk ?_ ?_; focus ((exact Eq.refl _)))
    refine ⟨fun h4 => ?_, fun h4 => ?_⟩
    · skip
      have c4 := h4
      (simp only [bsX] at c4)
      exact absurd c4 hs.1
    · skip
      have c4 := h4
      (simp only [bsX] at c4)
      refine ⟨fun h5 => ?_, fun h5 => ?_⟩
      · skip
        have c5 := h5
        (simp only [bsX] at c5)
        have he := h.e.resolve_left c5
        refine ⟨_, _, _, _, (cf_endOk he), ?_⟩
        repeat (refine Ob.mk ?_ ?_; focus ((exact Eq.refl _)))
        refine ⟨fun h6 => ?_, fun h6 => ?_⟩
        · skip
          (simp only [Int.reduceToNat, UInt8.reduceOfNat] at h6)
          have c6 := h6
          (simp only [bsX] at c6)
          repeat (refine Ob.mk ?_ ?_; focus ((exact Eq.refl _)))
          trivial
        · skip
          (simp only [Int.reduceToNat, UInt8.reduceOfNat] at h6)
          have c6 := h6
          (simp only [bsX] at c6)
          repeat (refine Ob.mk ?_ ?_; focus (first | (exact fun hg => beq_f hg) | (exact fun hg => hg)))
          refine ⟨fun h7 => ?_, fun h7 => ?_⟩
          · skip
            have c7 := h7
            (simp only [bsX] at c7)
            exact absurd c7 (by omega)
          · skip
            have c7 := h7
            (simp only [bsX] at c7)
            refine ⟨fun h8 => ?_, fun h8 => ?_⟩
            · skip
              have c8 := h8
              (simp only [bsX] at c8)
              exact absurd c8 (by omega)
            · skip
              have c8 := h8
              (simp only [bsX] at c8)
              refine ⟨Nat, fun i => ⟨[(1, .own 1001 0), (56, netsE p.ns), (57, .i (p.ns.length : Int)), (58, .i (i : Int))], [(1001, .box [.s p.k, .s p.s, .s p.e, .i p.a, netsE p.ns] 33)]⟩, fun i => i ≤ p.ns.length, fun i => p.ns.length - i, 0, Nat.zero_le _, ?_, fun i hx1 => ?_⟩
              · skip
                repeat (refine Ob.mk ?_ ?_; (focus (first | (exact Eq.refl _) | (intro hg; ((intro hq; ((simp_all; done))))))))
                trivial
              refine ⟨fun h9 => ?_, fun h9 => ?_⟩
              · skip
                have c9 := h9
                (simp only [bsX] at c9)
                have hi : i < p.ns.length := by omega
                repeat (refine Ob.mk ?_ ?_; focus (first | assumption | omega))
                refine ⟨_, _, _, _, (cf_nCheck (p := p.ns.getD i []) (nsAt_ok h i)), ?_⟩
                repeat (refine Ob.mk ?_ ?_; focus ((exact Eq.refl _)))
                refine knF ?_
                refine ⟨[0, 1, 3, 7, 15, 7, 39, 127, 255, 7, 1023, 2047, 4095], by kernel_rfl, ?_⟩
                repeat (refine Ob.mk ?_ ?_; (focus (first | omega | (exact fun hg => hg) | (intro hg; ((simp at hg; omega))))))
                refine gx (fun hc => (cf_nCompare (p := p.ns.getD (i - 1) []) (q := p.ns.getD i []))) (fun hk => ⟨hk, ?_⟩)
                repeat (refine Ob.mk ?_ ?_; (focus (first | (intro _; exact Eq.refl _) | (exact fun hg => beq_t hg) | (exact fun hg => hg) | (intro hg; ((simp_all; done))))))
                refine ⟨fun h11 => ?_, fun h11 => ?_⟩
                · skip
                  have c11 := h11
                  (simp only [bsX] at c11)
                  exact absurd (c11).2 (by have h0 : 0 < i := (by have := (c11).1; omega); rw [cmpP_lt (rise_at h.ns h0 hi)]; decide)
                · skip
                  have c11 := h11
                  (simp only [bsX] at c11)
                  repeat (refine Ob.mk ?_ ?_; focus (omega))
                  refine ⟨i + 1, (by assumption), (by (simp only [SrcE.len, Nat.zero_add, List.length_append, List.length_cons, List.length_nil]; omega)), ?_⟩
                  repeat (refine Ob.mk ?_ ?_; (focus (first | (exact Eq.refl _) | (intro hg; ((intro hq; ((simp_all; done))))))))
                  trivial
              · skip
                have c9 := h9
                (simp only [bsX] at c9)
                repeat (refine Ob.mk ?_ ?_; focus ((exact Eq.refl _)))
                trivial
      · skip
        have c5 := h5
        (simp only [bsX] at c5)
        repeat (refine Ob.mk ?_ ?_; focus (first | (exact fun hg => beq_f hg) | (exact fun hg => hg)))
        refine ⟨fun h12 => ?_, fun h12 => ?_⟩
        · skip
          have c12 := h12
          (simp only [bsX] at c12)
          exact absurd c12 (by omega)
        · skip
          have c12 := h12
          (simp only [bsX] at c12)
          refine ⟨fun h13 => ?_, fun h13 => ?_⟩
          · skip
            have c13 := h13
            (simp only [bsX] at c13)
            exact absurd c13 (by omega)
          · skip
            have c13 := h13
            (simp only [bsX] at c13)
            refine ⟨Nat, fun i => ⟨[(1, .own 1001 0), (56, netsE p.ns), (57, .i (p.ns.length : Int)), (58, .i (i : Int))], [(1001, .box [.s p.k, .s p.s, .s p.e, .i p.a, netsE p.ns] 33)]⟩, fun i => i ≤ p.ns.length, fun i => p.ns.length - i, 0, Nat.zero_le _, ?_, fun i hx1 => ?_⟩
            · skip
              repeat (refine Ob.mk ?_ ?_; (focus (first | (exact Eq.refl _) | (intro hg; ((intro hq; ((simp_all; done))))))))
              trivial
            refine ⟨fun h14 => ?_, fun h14 => ?_⟩
            · skip
              have c14 := h14
              (simp only [bsX] at c14)
              have hi : i < p.ns.length := by omega
              repeat (refine Ob.mk ?_ ?_; focus (first | assumption | omega))
              refine ⟨_, _, _, _, (cf_nCheck (p := p.ns.getD i []) (nsAt_ok h i)), ?_⟩
              repeat (refine Ob.mk ?_ ?_; focus ((exact Eq.refl _)))
              refine knF ?_
              refine ⟨[0, 1, 3, 7, 15, 7, 39, 127, 255, 7, 1023, 2047, 4095], by kernel_rfl, ?_⟩
              repeat (refine Ob.mk ?_ ?_; (focus (first | omega | (exact fun hg => hg) | (intro hg; ((simp at hg; omega))))))
              refine gx (fun hc => (cf_nCompare (p := p.ns.getD (i - 1) []) (q := p.ns.getD i []))) (fun hk => ⟨hk, ?_⟩)
              repeat (refine Ob.mk ?_ ?_; (focus (first | (intro _; exact Eq.refl _) | (exact fun hg => beq_t hg) | (exact fun hg => hg) | (intro hg; ((simp_all; done))))))
              refine ⟨fun h16 => ?_, fun h16 => ?_⟩
              · skip
                have c16 := h16
                (simp only [bsX] at c16)
                exact absurd (c16).2 (by have h0 : 0 < i := (by have := (c16).1; omega); rw [cmpP_lt (rise_at h.ns h0 hi)]; decide)
              · skip
                have c16 := h16
                (simp only [bsX] at c16)
                repeat (refine Ob.mk ?_ ?_; focus (omega))
                refine ⟨i + 1, (by assumption), (by (simp only [SrcE.len, Nat.zero_add, List.length_append, List.length_cons, List.length_nil]; omega)), ?_⟩
                repeat (refine Ob.mk ?_ ?_; (focus (first | (exact Eq.refl _) | (intro hg; ((intro hq; ((simp_all; done))))))))
                trivial
            · skip
              have c14 := h14
              (simp only [bsX] at c14)
              repeat (refine Ob.mk ?_ ?_; focus ((exact Eq.refl _)))
              trivial
  · skip
    have c2 := h2
    (simp only [bsX] at c2)
    refine ⟨fun h17 => ?_, fun h17 => ?_⟩
    · skip
      have c17 := h17
      (simp only [bsX] at c17)
      have he := h.e.resolve_left c17
      refine ⟨_, _, _, _, (cf_endOk he), ?_⟩
      repeat (refine Ob.mk ?_ ?_; focus ((exact Eq.refl _)))
      refine ⟨fun h18 => ?_, fun h18 => ?_⟩
      · skip
        (simp only [Int.reduceToNat, UInt8.reduceOfNat] at h18)
        have c18 := h18
        (simp only [bsX] at c18)
        repeat (refine Ob.mk ?_ ?_; focus ((exact Eq.refl _)))
        trivial
      · skip
        (simp only [Int.reduceToNat, UInt8.reduceOfNat] at h18)
        have c18 := h18
        (simp only [bsX] at c18)
        repeat (refine Ob.mk ?_ ?_; focus (first | (exact fun hg => beq_f hg) | (exact fun hg => hg)))
        refine ⟨fun h19 => ?_, fun h19 => ?_⟩
        · skip
          have c19 := h19
          (simp only [bsX] at c19)
          exact absurd c19 (by omega)
        · skip
          have c19 := h19
          (simp only [bsX] at c19)
          refine ⟨fun h20 => ?_, fun h20 => ?_⟩
          · skip
            have c20 := h20
            (simp only [bsX] at c20)
            exact absurd c20 (by omega)
          · skip
            have c20 := h20
            (simp only [bsX] at c20)
            refine ⟨Nat, fun i => ⟨[(1, .own 1001 0), (56, netsE p.ns), (57, .i (p.ns.length : Int)), (58, .i (i : Int))], [(1001, .box [.s p.k, .s p.s, .s p.e, .i p.a, netsE p.ns] 33)]⟩, fun i => i ≤ p.ns.length, fun i => p.ns.length - i, 0, Nat.zero_le _, ?_, fun i hx1 => ?_⟩
            · skip
              repeat (refine Ob.mk ?_ ?_; (focus (first | (exact Eq.refl _) | (intro hg; ((intro hq; ((simp_all; done))))))))
              trivial
            refine ⟨fun h21 => ?_, fun h21 => ?_⟩
            · skip
              have c21 := h21
              (simp only [bsX] at c21)
              have hi : i < p.ns.length := by omega
              repeat (refine Ob.mk ?_ ?_; focus (first | assumption | omega))
              refine ⟨_, _, _, _, (cf_nCheck (p := p.ns.getD i []) (nsAt_ok h i)), ?_⟩
              repeat (refine Ob.mk ?_ ?_; focus ((exact Eq.refl _)))
              refine knF ?_
              refine ⟨[0, 1, 3, 7, 15, 7, 39, 127, 255, 7, 1023, 2047, 4095], by kernel_rfl, ?_⟩
              repeat (refine Ob.mk ?_ ?_; (focus (first | omega | (exact fun hg => hg) | (intro hg; ((simp at hg; omega))))))
              refine gx (fun hc => (cf_nCompare (p := p.ns.getD (i - 1) []) (q := p.ns.getD i []))) (fun hk => ⟨hk, ?_⟩)
              repeat (refine Ob.mk ?_ ?_; (focus (first | (intro _; exact Eq.refl _) | (exact fun hg => beq_t hg) | (exact fun hg => hg) | (intro hg; ((simp_all; done))))))
              refine ⟨fun h23 => ?_, fun h23 => ?_⟩
              · skip
                have c23 := h23
                (simp only [bsX] at c23)
                exact absurd (c23).2 (by have h0 : 0 < i := (by have := (c23).1; omega); rw [cmpP_lt (rise_at h.ns h0 hi)]; decide)
              · skip
                have c23 := h23
                (simp only [bsX] at c23)
                repeat (refine Ob.mk ?_ ?_; focus (omega))
                refine ⟨i + 1, (by assumption), (by (simp only [SrcE.len, Nat.zero_add, List.length_append, List.length_cons, List.length_nil]; omega)), ?_⟩
                repeat (refine Ob.mk ?_ ?_; (focus (first | (exact Eq.refl _) | (intro hg; ((intro hq; ((simp_all; done))))))))
                trivial
            · skip
              have c21 := h21
              (simp only [bsX] at c21)
              repeat (refine Ob.mk ?_ ?_; focus ((exact Eq.refl _)))
              trivial
    · skip
      have c17 := h17
      (simp only [bsX] at c17)
      repeat (refine Ob.mk ?_ ?_; focus (first | (exact fun hg => beq_f hg) | (exact fun hg => hg)))
      refine ⟨fun h24 => ?_, fun h24 => ?_⟩
      · skip
        have c24 := h24
        (simp only [bsX] at c24)
        exact absurd c24 (by omega)
      · skip
        have c24 := h24
        (simp only [bsX] at c24)
        refine ⟨fun h25 => ?_, fun h25 => ?_⟩
        · skip
          have c25 := h25
          (simp only [bsX] at c25)
          exact absurd c25 (by omega)
        · skip
          have c25 := h25
          (simp only [bsX] at c25)
          refine ⟨Nat, fun i => ⟨[(1, .own 1001 0), (56, netsE p.ns), (57, .i (p.ns.length : Int)), (58, .i (i : Int))], [(1001, .box [.s p.k, .s p.s, .s p.e, .i p.a, netsE p.ns] 33)]⟩, fun i => i ≤ p.ns.length, fun i => p.ns.length - i, 0, Nat.zero_le _, ?_, fun i hx1 => ?_⟩
          · skip
            repeat (refine Ob.mk ?_ ?_; (focus (first | (exact Eq.refl _) | (intro hg; ((intro hq; ((simp_all; done))))))))
            trivial
          refine ⟨fun h26 => ?_, fun h26 => ?_⟩
          · skip
            have c26 := h26
            (simp only [bsX] at c26)
            have hi : i < p.ns.length := by omega
            repeat (refine Ob.mk ?_ ?_; focus (first | assumption | omega))
            refine ⟨_, _, _, _, (cf_nCheck (p := p.ns.getD i []) (nsAt_ok h i)), ?_⟩
            repeat (refine Ob.mk ?_ ?_; focus ((exact Eq.refl _)))
            refine knF ?_
            refine ⟨[0, 1, 3, 7, 15, 7, 39, 127, 255, 7, 1023, 2047, 4095], by kernel_rfl, ?_⟩
            repeat (refine Ob.mk ?_ ?_; (focus (first | omega | (exact fun hg => hg) | (intro hg; ((simp at hg; omega))))))
            refine gx (fun hc => (cf_nCompare (p := p.ns.getD (i - 1) []) (q := p.ns.getD i []))) (fun hk => ⟨hk, ?_⟩)
            repeat (refine Ob.mk ?_ ?_; (focus (first | (intro _; exact Eq.refl _) | (exact fun hg => beq_t hg) | (exact fun hg => hg) | (intro hg; ((simp_all; done))))))
            refine ⟨fun h28 => ?_, fun h28 => ?_⟩
            · skip
              have c28 := h28
              (simp only [bsX] at c28)
              exact absurd (c28).2 (by have h0 : 0 < i := (by have := (c28).1; omega); rw [cmpP_lt (rise_at h.ns h0 hi)]; decide)
            · skip
              have c28 := h28
              (simp only [bsX] at c28)
              repeat (refine Ob.mk ?_ ?_; focus (omega))
              refine ⟨i + 1, (by assumption), (by (simp only [SrcE.len, Nat.zero_add, List.length_append, List.length_cons, List.length_nil]; omega)), ?_⟩
              repeat (refine Ob.mk ?_ ?_; (focus (first | (exact Eq.refl _) | (intro hg; ((intro hq; ((simp_all; done))))))))
              trivial
          · skip
            have c26 := h26
            (simp only [bsX] at c26)
            repeat (refine Ob.mk ?_ ?_; focus ((exact Eq.refl _)))
            trivial
abbrev pA (c : ConfS) (i : Nat) : PeerS := c.ps.getD i peer0
def al (c : ConfS) (i : Nat) : List (List Bool) := (c.ps.take i).flatMap (·.ns)
theorem pA_mem {c : ConfS} {i : Nat} (hi : i < c.ps.length) : pA c i ∈ c.ps := by
  show c.ps.getD i peer0 ∈ c.ps
  rw [List.getD_eq_getElem?_getD, List.getElem?_eq_getElem hi]
  exact List.getElem_mem hi
theorem take_pA {c : ConfS} {i : Nat} (hi : i < c.ps.length) : c.ps.take (i + 1) = c.ps.take i ++ [pA c i] := by
  show _ = _ ++ [c.ps.getD i peer0]
  rw [List.take_succ_eq_append_getElem hi, List.getD_eq_getElem?_getD, List.getElem?_eq_getElem hi]; rfl
theorem al_next {c : ConfS} {i : Nat} (hi : i < c.ps.length) : al c (i + 1) = al c i ++ (pA c i).ns := by
  show (c.ps.take (i + 1)).flatMap (·.ns) = _
  rw [take_pA hi, List.flatMap_append]; simp [al]
theorem al_pre {c : ConfS} {i : Nat} (h : (c.ps.flatMap (·.ns)).Nodup) : (al c i).Nodup := by
  have e : c.ps.flatMap (·.ns) = al c i ++ (c.ps.drop i).flatMap (·.ns) := by unfold al; rw [← List.flatMap_append, List.take_append_drop]
  rw [e] at h
  exact (List.nodup_append.1 h).1
theorem al_len {c : ConfS} (h : ConfOk c) : ∀ i, i ≤ c.ps.length → (al c i).length ≤ 8 * i
  | 0, _ => Nat.le_refl _
  | i + 1, hi => by
    rw [al_next (by omega), List.length_append]
    have := al_len h i (by omega)
    have := (h.ps _ (pA_mem (c := c) (i := i) (by omega))).1.nl
    omega
theorem take_ns {l : List (List Bool)} {k : Nat} (hk : k < l.length) : l.take (k + 1) = l.take k ++ [l.getD k []] := by
  rw [List.take_succ_eq_append_getElem hk, List.getD_eq_getElem?_getD, List.getElem?_eq_getElem hk]; rfl
theorem al_not {c : ConfS} (h : ConfOk c) {i k : Nat} (hi : i < c.ps.length) (hk : k < (pA c i).ns.length) : (pA c i).ns.getD k [] ∉ al c i ++ (pA c i).ns.take k := by
  have h1 := al_pre (c := c) (i := i + 1) h.nd
  rw [al_next hi, ← List.take_append_drop (k + 1) (pA c i).ns, take_ns hk, ← List.append_assoc, ← List.append_assoc] at h1
  have h2 := (List.nodup_append.1 h1).1
  intro hm
  exact (List.nodup_append.1 h2).2.2 _ hm _ (List.mem_singleton.2 rfl) rfl
theorem chk_key {c : ConfS} (h : ConfOk c) {i : Nat} (hi : i < c.ps.length) : ¬ ((0 < (i : Int) ∧ (Op.bytesLess (c.ps.getD (i : Int).toNat peer0).k (c.ps.getD ((i : Int) - 1).toNat peer0).k = true ∨ (c.ps.getD (i : Int).toNat peer0).k = (c.ps.getD ((i : Int) - 1).toNat peer0).k)) ∨ (c.ps.getD (i : Int).toNat peer0).k = c.k) := by
  rintro (⟨h0, k⟩ | k)
  · have e : ((i : Int) - 1).toNat = i - 1 := by omega
    rw [e, Int.toNat_natCast, List.getD_eq_getElem?_getD, List.getD_eq_getElem?_getD, List.getElem?_eq_getElem hi, List.getElem?_eq_getElem (by omega), Option.getD_some, Option.getD_some] at k
    have q := List.pairwise_iff_getElem.1 h.inc (i - 1) i (by omega) hi (by omega)
    rcases k with k | k
    · have := q.1
      rw [k] at this; cases this
    · exact q.2 k
  · exact (h.ps _ (pA_mem hi)).2 k
set_option maxRecDepth 100000 in
set_option maxHeartbeats 4000000 in
theorem cf_ConfCheck {c : ConfS} (h : ConfOk c) : Cf Tryz.prog 21 [] [confE c] [] (.i 0) := by
  have hpo := h.port
  have hpl := h.pl
  refine Cf.introR tabT {nl := [(4, 36, 2)]} (DR _ _ _ tabT {nl := [(4, 36, 2)]}) (by kernel_rfl) tab_ok Tryz.func21 Tryz.ntmps21 rfl rfl (DR_ok tab_ok (by kernel_rfl)) (by kernel_rfl) ?_
  refine ⟨fun h1 => ?_, fun h1 => ?_⟩
  · skip
    have c1 := h1
    (simp only [bsX] at c1)
    have hk := h.k.resolve_left c1
    refine ⟨_, _, _, _, (cf_hexOk hk), ?_⟩
    repeat (refine Ob.mk ?_ ?_; focus ((exact Eq.refl _)))
    refine knF ?_
    repeat (refine Ob.mk ?_ ?_; focus (first | (exact fun hg => beq_f hg) | (exact fun hg => hg)))
    refine ⟨fun h3 => ?_, fun h3 => ?_⟩
    · skip
      have c3 := h3
      (simp only [bsX] at c3)
      exact absurd c3 (by omega)
    · skip
      have c3 := h3
      (simp only [bsX] at c3)
      refine ⟨fun h4 => ?_, fun h4 => ?_⟩
      · skip
        have c4 := h4
        (simp only [bsX] at c4)
        exact absurd c4 (by omega)
      · skip
        have c4 := h4
        (simp only [bsX] at c4)
        refine ⟨Nat, fun i => ⟨[(1, .own 1001 0), (4, .osl 61 (al c i).length), (32, peersE c.ps), (33, .i (c.ps.length : Int)), (34, .i (i : Int))], [(1001, .box [.s c.k, .i c.port, peersE c.ps] 25), (61, .rz (al c i).length 2 (fun a b => netC ((al c i).getD a []) b) 36 0)]⟩, fun i => i ≤ c.ps.length, fun i => c.ps.length - i, 0, Nat.zero_le _, ?_, fun i hx1 => ?_⟩
        · skip
          repeat (refine Ob.mk ?_ ?_; focus (first | (exact fun _ _ _ _ => rfl) | (exact Eq.refl _) | omega))
          trivial
        refine ⟨fun h5 => ?_, fun h5 => ?_⟩
        · skip
          have c5 := h5
          (simp only [bsX] at c5)
          have hi : i < c.ps.length := by omega
          have hp := h.ps _ (pA_mem hi)
          have hal := al_len h i (by omega)
          have hnl := hp.1.nl
          have hanx := al_next hi
          have e0 : al c i ++ (pA c i).ns.take 0 = al c i := by simp
          repeat (refine Ob.mk ?_ ?_; focus (first | assumption | omega))
          refine ⟨_, _, _, _, (cf_RightO (p := pA c i) hp.1), ?_⟩
          repeat (refine Ob.mk ?_ ?_; focus (first | (exact fun _ _ _ _ => rfl) | (exact Eq.refl _)))
          refine knF ?_
          refine ⟨[0, 1, 3, 7, 15, 7, 39, 7, 135, 487, 999, 2023, 4095, 8191, 16383, 32767, 65535, 32767, 163839, 524287, 1048575], by kernel_rfl, ?_⟩
          repeat (refine Ob.mk ?_ ?_; (focus (first | omega | (exact fun hg => beq_t hg) | (exact fun hg => beq_f hg) | (exact fun hg => hg) | (intro hg; ((simp at hg; omega))))))
          refine ⟨fun h7 => ?_, fun h7 => ?_⟩
          · skip
            have c7 := h7
            (simp only [bsX] at c7)
            exact absurd c7 (chk_key h hi)
          · skip
            have c7 := h7
            (simp only [bsX] at c7)
            refine ⟨Nat, fun k => ⟨[(1, .own 1001 0), (4, .osl 61 (al c i ++ (pA c i).ns.take k).length), (5, .i (i : Int)), (32, peersE c.ps), (33, .i (c.ps.length : Int)), (34, .i (i : Int)), (66, netsE (pA c i).ns), (67, .i ((pA c i).ns.length : Int)), (68, .i (k : Int))], [(1001, .box [.s c.k, .i c.port, peersE c.ps] 25), (61, .rz (al c i ++ (pA c i).ns.take k).length 2 (fun a b => netC ((al c i ++ (pA c i).ns.take k).getD a []) b) 36 0)]⟩, fun k => k ≤ (pA c i).ns.length, fun k => (pA c i).ns.length - k, 0, Nat.zero_le _, ?_, fun k hx2 => ?_⟩
            · skip
              repeat (refine Ob.mk ?_ ?_; focus (first | (exact congrArg List.length e0.symm) | (exact eqN e0.symm) | (exact fun _ _ _ _ => rfl) | (exact Eq.refl _) | omega))
              trivial
            refine ⟨fun h8 => ?_, fun h8 => ?_⟩
            · skip
              have c8 := h8
              (simp only [bsX] at c8)
              have hk : k < (pA c i).ns.length := by omega
              have h32 : ((pA c i).ns.getD k []).length ≤ 32 := nsAt_ok hp.1 k
              have hle : (al c i ++ (pA c i).ns.take k).length ≤ 1000 := by rw [List.length_append, List.length_take]; omega
              have hle2 : (al c i).length + min k (pA c i).ns.length ≤ 1000 := by omega
              have hM : al c i ++ (pA c i).ns.take (k + 1) = (al c i ++ (pA c i).ns.take k) ++ [(pA c i).ns.getD k []] := by rw [take_ns hk, List.append_assoc]
              have hl1 : (al c i ++ (pA c i).ns.take k).length + 1 = (al c i ++ (pA c i).ns.take (k + 1)).length := by rw [hM]; simp [Nat.add_assoc]
              repeat (refine Ob.mk ?_ ?_; focus (first | assumption | omega))
              refine ⟨_, _, _, _, (cf_netHas (ns := al c i ++ (pA c i).ns.take k) (n := (pA c i).ns.getD k []) hle h32), ?_⟩
              repeat (refine Ob.mk ?_ ?_; focus (first | (exact fun _ _ _ _ => rfl) | (exact Eq.refl _) | omega))
              refine ⟨fun h9 => ?_, fun h9 => ?_⟩
              · skip
                have c9 := h9
                (simp only [bsX] at c9)
                exact absurd c9 (al_not h hi hk)
              · skip
                have c9 := h9
                (simp only [bsX] at c9)
                repeat (refine Ob.mk ?_ ?_; (focus (first | (exact Eq.refl _) | omega | (simp [SrcE.len]; omega))))
                refine ⟨k + 1, (by assumption), (by (simp only [SrcE.len, Nat.zero_add, List.length_append, List.length_cons, List.length_nil]; omega)), ?_⟩
                repeat (refine Ob.mk ?_ ?_; focus (first | (exact hl1) | (exact nets_snoc rfl hM) | (exact fun _ _ _ _ => rfl) | (exact Eq.refl _) | (exact Nat.le_of_ble_eq_true rfl)))
                trivial
            · skip
              have c8 := h8
              (simp only [bsX] at c8)
              obtain rfl : k = (pA c i).ns.length := by omega
              have hA : al c i ++ (pA c i).ns.take (pA c i).ns.length = al c (i + 1) := by rw [List.take_length, hanx]
              repeat (refine Ob.mk ?_ ?_; focus (omega))
              refine ⟨i + 1, (by assumption), (by (simp only [SrcE.len, Nat.zero_add, List.length_append, List.length_cons, List.length_nil]; omega)), ?_⟩
              repeat (refine Ob.mk ?_ ?_; focus (first | (exact congrArg List.length hA) | (exact eqN hA) | (exact fun _ _ _ _ => rfl) | (exact Eq.refl _) | omega))
              trivial
        · skip
          have c5 := h5
          (simp only [bsX] at c5)
          repeat (refine Ob.mk ?_ ?_; focus ((exact Eq.refl _)))
          trivial
  · skip
    have c1 := h1
    (simp only [bsX] at c1)
    repeat (refine Ob.mk ?_ ?_; focus (first | (exact fun hg => beq_f hg) | (exact fun hg => hg)))
    refine ⟨fun h10 => ?_, fun h10 => ?_⟩
    · skip
      have c10 := h10
      (simp only [bsX] at c10)
      exact absurd c10 (by omega)
    · skip
      have c10 := h10
      (simp only [bsX] at c10)
      refine ⟨fun h11 => ?_, fun h11 => ?_⟩
      · skip
        have c11 := h11
        (simp only [bsX] at c11)
        exact absurd c11 (by omega)
      · skip
        have c11 := h11
        (simp only [bsX] at c11)
        refine ⟨Nat, fun i => ⟨[(1, .own 1001 0), (4, .osl 61 (al c i).length), (32, peersE c.ps), (33, .i (c.ps.length : Int)), (34, .i (i : Int))], [(1001, .box [.s c.k, .i c.port, peersE c.ps] 25), (61, .rz (al c i).length 2 (fun a b => netC ((al c i).getD a []) b) 36 0)]⟩, fun i => i ≤ c.ps.length, fun i => c.ps.length - i, 0, Nat.zero_le _, ?_, fun i hx1 => ?_⟩
        · skip
          repeat (refine Ob.mk ?_ ?_; focus (first | (exact fun _ _ _ _ => rfl) | (exact Eq.refl _) | omega))
          trivial
        refine ⟨fun h12 => ?_, fun h12 => ?_⟩
        · skip
          have c12 := h12
          (simp only [bsX] at c12)
          have hi : i < c.ps.length := by omega
          have hp := h.ps _ (pA_mem hi)
          have hal := al_len h i (by omega)
          have hnl := hp.1.nl
          have hanx := al_next hi
          have e0 : al c i ++ (pA c i).ns.take 0 = al c i := by simp
          repeat (refine Ob.mk ?_ ?_; focus (first | assumption | omega))
          refine ⟨_, _, _, _, (cf_RightO (p := pA c i) hp.1), ?_⟩
          repeat (refine Ob.mk ?_ ?_; focus (first | (exact fun _ _ _ _ => rfl) | (exact Eq.refl _)))
          refine knF ?_
          refine ⟨[0, 1, 3, 7, 15, 7, 39, 7, 135, 487, 999, 2023, 4095, 8191, 16383, 32767, 65535, 32767, 163839, 524287, 1048575], by kernel_rfl, ?_⟩
          repeat (refine Ob.mk ?_ ?_; (focus (first | omega | (exact fun hg => beq_t hg) | (exact fun hg => beq_f hg) | (exact fun hg => hg) | (intro hg; ((simp at hg; omega))))))
          refine ⟨fun h14 => ?_, fun h14 => ?_⟩
          · skip
            have c14 := h14
            (simp only [bsX] at c14)
            exact absurd c14 (chk_key h hi)
          · skip
            have c14 := h14
            (simp only [bsX] at c14)
            refine ⟨Nat, fun k => ⟨[(1, .own 1001 0), (4, .osl 61 (al c i ++ (pA c i).ns.take k).length), (5, .i (i : Int)), (32, peersE c.ps), (33, .i (c.ps.length : Int)), (34, .i (i : Int)), (66, netsE (pA c i).ns), (67, .i ((pA c i).ns.length : Int)), (68, .i (k : Int))], [(1001, .box [.s c.k, .i c.port, peersE c.ps] 25), (61, .rz (al c i ++ (pA c i).ns.take k).length 2 (fun a b => netC ((al c i ++ (pA c i).ns.take k).getD a []) b) 36 0)]⟩, fun k => k ≤ (pA c i).ns.length, fun k => (pA c i).ns.length - k, 0, Nat.zero_le _, ?_, fun k hx2 => ?_⟩
            · skip
              repeat (refine Ob.mk ?_ ?_; focus (first | (exact congrArg List.length e0.symm) | (exact eqN e0.symm) | (exact fun _ _ _ _ => rfl) | (exact Eq.refl _) | omega))
              trivial
            refine ⟨fun h15 => ?_, fun h15 => ?_⟩
            · skip
              have c15 := h15
              (simp only [bsX] at c15)
              have hk : k < (pA c i).ns.length := by omega
              have h32 : ((pA c i).ns.getD k []).length ≤ 32 := nsAt_ok hp.1 k
              have hle : (al c i ++ (pA c i).ns.take k).length ≤ 1000 := by rw [List.length_append, List.length_take]; omega
              have hle2 : (al c i).length + min k (pA c i).ns.length ≤ 1000 := by omega
              have hM : al c i ++ (pA c i).ns.take (k + 1) = (al c i ++ (pA c i).ns.take k) ++ [(pA c i).ns.getD k []] := by rw [take_ns hk, List.append_assoc]
              have hl1 : (al c i ++ (pA c i).ns.take k).length + 1 = (al c i ++ (pA c i).ns.take (k + 1)).length := by rw [hM]; simp [Nat.add_assoc]
              repeat (refine Ob.mk ?_ ?_; focus (first | assumption | omega))
              refine ⟨_, _, _, _, (cf_netHas (ns := al c i ++ (pA c i).ns.take k) (n := (pA c i).ns.getD k []) hle h32), ?_⟩
              repeat (refine Ob.mk ?_ ?_; focus (first | (exact fun _ _ _ _ => rfl) | (exact Eq.refl _) | omega))
              refine ⟨fun h16 => ?_, fun h16 => ?_⟩
              · skip
                have c16 := h16
                (simp only [bsX] at c16)
                exact absurd c16 (al_not h hi hk)
              · skip
                have c16 := h16
                (simp only [bsX] at c16)
                repeat (refine Ob.mk ?_ ?_; (focus (first | (exact Eq.refl _) | omega | (simp [SrcE.len]; omega))))
                refine ⟨k + 1, (by assumption), (by (simp only [SrcE.len, Nat.zero_add, List.length_append, List.length_cons, List.length_nil]; omega)), ?_⟩
                repeat (refine Ob.mk ?_ ?_; focus (first | (exact hl1) | (exact nets_snoc rfl hM) | (exact fun _ _ _ _ => rfl) | (exact Eq.refl _) | (exact Nat.le_of_ble_eq_true rfl)))
                trivial
            · skip
              have c15 := h15
              (simp only [bsX] at c15)
              obtain rfl : k = (pA c i).ns.length := by omega
              have hA : al c i ++ (pA c i).ns.take (pA c i).ns.length = al c (i + 1) := by rw [List.take_length, hanx]
              repeat (refine Ob.mk ?_ ?_; focus (omega))
              refine ⟨i + 1, (by assumption), (by (simp only [SrcE.len, Nat.zero_add, List.length_append, List.length_cons, List.length_nil]; omega)), ?_⟩
              repeat (refine Ob.mk ?_ ?_; focus (first | (exact congrArg List.length hA) | (exact eqN hA) | (exact fun _ _ _ _ => rfl) | (exact Eq.refl _) | omega))
              trivial
        · skip
          have c12 := h12
          (simp only [bsX] at c12)
          repeat (refine Ob.mk ?_ ?_; focus ((exact Eq.refl _)))
          trivial
end Go.Proofs.YtcebndkiagbddaaGreatDoor

namespace Go.Proofs.YtcebndkiagbddaaGreatDoor
open Go.RowKit
set_option linter.unusedVariables false
set_option linter.unusedSimpArgs false

set_option maxRecDepth 100000 in
set_option maxHeartbeats 4000000 in
theorem cf_nClone {ns : List (List Bool)} (hl : ns.length ≤ 1000000) : Cf Tryz.prog 108 [] [netsE ns] [] (netsE ns) := by
  refine Cf.introR tabT {} D0 (by kernel_rfl) tab_ok Tryz.func108 Tryz.ntmps108 rfl rfl (D0_ok) (by kernel_rfl) ?_
  refine fun g1 hg1 => ?_
  refine ⟨fun h2 => ?_, fun h2 => ?_⟩
  · skip
    have c2 := h2
    repeat (refine Ob.mk ?_ ?_; (focus (((simp_all; done)))))
    trivial
  · skip
    have c2 := h2
    repeat (refine Ob.mk ?_ ?_; (focus (first | (exact fun _ _ _ _ => rfl) | (exact Eq.refl _) | omega | (simp only [SrcE.len, Nat.zero_add, List.length_append, List.length_cons, List.length_nil]; omega))))
    trivial
set_option maxRecDepth 100000 in
set_option maxHeartbeats 4000000 in
theorem cf_nCloneO {ns : List (List Bool)} (hl : ns.length ≤ 1000000) : Cf Tryz.prog 108 [] [netsE ns] [(60, .rz ns.length 2 (fun i j => netC (ns.getD i []) j) 36 0)] (.osl 60 ns.length) := by
  refine Cf.introR tabT {nr := [(2, 36, 2)]} D0 (by kernel_rfl) tab_ok Tryz.func108 Tryz.ntmps108 rfl rfl (D0_ok) (by kernel_rfl) ?_
  refine fun g1 hg1 => ?_
  refine ⟨fun h2 => ?_, fun h2 => ?_⟩
  · skip
    have c2 := h2
    have hz := hg1 h2
    repeat (refine Ob.mk ?_ ?_; focus (first | (exact hz.symm) | omega))
    trivial
  · skip
    have c2 := h2
    repeat (refine Ob.mk ?_ ?_; (focus (first | (exact fun _ _ _ _ => rfl) | (exact Eq.refl _) | omega | (exact Nat.le_of_ble_eq_true rfl) | (simp only [SrcE.len, Nat.zero_add, List.length_append, List.length_cons, List.length_nil]; first | done | omega))))
    trivial
theorem p5 {m : List EV} {g : Nat → EV} (h0 : m.getD 0 .any = g 0) (h1 : m.getD 1 .any = g 1) (h2 : m.getD 2 .any = g 2) (h3 : m.getD 3 .any = g 3) (h4 : m.getD 4 .any = g 4) : ∀ j, j < 5 → m.getD j .any = g j := fun j hj => by
  have : j = 0 ∨ j = 1 ∨ j = 2 ∨ j = 3 ∨ j = 4 := by omega
  rcases this with rfl | rfl | rfl | rfl | rfl <;> assumption
set_option maxRecDepth 100000 in
set_option maxHeartbeats 4000000 in
theorem cf_CopyF {c : ConfS} (hl : c.ps.length ≤ 1000) (h8 : ∀ p ∈ c.ps, p.ns.length ≤ 1000000) : Cf Tryz.prog 64 [] [confE c] [(60, .rz c.ps.length 5 (fun i j => peerC (c.ps.getD i peer0) j) 33 0)] (.agg [.s c.k, .i c.port, .osl 60 c.ps.length]) := by
  refine Cf.introR tabT {} D0 (by kernel_rfl) tab_ok Tryz.func64 Tryz.ntmps64 rfl rfl (D0_ok) (by kernel_rfl) ?_
  repeat (refine Ob.mk ?_ ?_; focus (omega))
  refine ⟨Nat, fun i => ⟨[(1, .own 1001 0), (2, .own 1002 0), (3, .osl 61 i), (11, peersE c.ps), (12, .i (c.ps.length : Int)), (13, .i (i : Int))], [(1001, .box [.s c.k, .i c.port, peersE c.ps] 25), (1002, .box [.s [], .i 0, .nil] 25), (61, .rz i 5 (fun a b => peerC (c.ps.getD a peer0) b) 33 0)]⟩, fun i => i ≤ c.ps.length, fun i => c.ps.length - i, 0, Nat.zero_le _, ?_, fun i hx1 => ?_⟩
  · skip
    repeat (refine Ob.mk ?_ ?_; (focus (first | (exact Eq.refl _) | omega | (intro hg; ((intro hq; ((simp_all; done))))))))
    trivial
  refine ⟨fun h1 => ?_, fun h1 => ?_⟩
  · skip
    have c1 := h1
    (simp only [bsX] at c1)
    have hi : i < c.ps.length := by omega
    repeat (refine Ob.mk ?_ ?_; focus (first | assumption | omega))
    refine ⟨_, _, _, _, (cf_nClone (ns := (c.ps.getD i peer0).ns) (h8 _ (pA_mem hi))), ?_⟩
    repeat (refine Ob.mk ?_ ?_; (focus (first | (exact Eq.refl _) | omega | (simp only [SrcE.len, Nat.zero_add, List.length_append, List.length_cons, List.length_nil]; omega) | (intro hg; ((intro hq; ((simp_all; done))))))))
    refine ⟨i + 1, (by assumption), (by (simp only [SrcE.len, Nat.zero_add, List.length_append, List.length_cons, List.length_nil]; omega)), ?_⟩
    repeat (refine Ob.mk ?_ ?_; (focus (first | (exact ln_snoc (fun _ _ _ _ => rfl) (p5 (Eq.refl _) (Eq.refl _) (Eq.refl _) (Eq.refl _) (Eq.refl _))) | (exact Eq.refl _) | (exact Nat.le_of_ble_eq_true rfl) | (intro hg; ((intro hq; ((simp_all; done))))))))
    trivial
  · skip
    have c1 := h1
    (simp only [bsX] at c1)
    repeat (refine Ob.mk ?_ ?_; (focus (first | (exact Eq.refl _) | omega | (intro hg; ((intro hq; ((simp_all; done))))))))
    trivial
end Go.Proofs.YtcebndkiagbddaaGreatDoor

namespace Go.Proofs.YtcebndkiagbddaaGreatDoor
open Go.RowKit
set_option linter.unusedVariables false
set_option linter.unusedSimpArgs false

/-- A peer's cells; its nets by the peer's own place. -/
def peerK (p : PeerS) (i : Nat) : Nat → EV
  | 0 => .s p.k
  | 1 => .s p.s
  | 2 => .s p.e
  | 3 => .i p.a
  | _ => .osl i p.ns.length
/-! Blocks, by short names. -/
abbrev rK (m : Nat) (ps : List PeerS) (ns : List Nat) : EB := .ra m 5 (fun a b => peerK (ps.getD a peer0) a b) 33 ns
abbrev dK (ps : List PeerS) (a : Nat) : EB := .rz (ps.getD a peer0).ns.length 2 (fun x y => netC ((ps.getD a peer0).ns.getD x []) y) 36 0
abbrev nmK : List Nat := [7000, 7001, 7002, 7003, 7004, 7005]
theorem noL_K {p : PeerS} {a i : Nat} (h : a ≠ i) : ∀ b, noL i (peerK p a b)
  | 0 => rfl
  | 1 => rfl
  | 2 => rfl
  | 3 => rfl
  | _ + 4 => h
theorem isL_5 {g : Nat → EV} (h0 : isL0 (g 0)) (h1 : isL0 (g 1)) (h2 : isL0 (g 2)) (h3 : isL0 (g 3)) (h4 : isL0 (g 4)) : ∀ b, b < 5 → isL0 (g b) := fun j hj => by
  have : j = 0 ∨ j = 1 ∨ j = 2 ∨ j = 3 ∨ j = 4 := by omega
  rcases this with rfl | rfl | rfl | rfl | rfl <;> assumption
/-- How many nets the peer at a place has, of the first so many peers. -/
def knK (c : ConfS) (i a : Nat) : Nat := if a < i then (c.ps.getD a peer0).ns.length else 0
theorem knK_lt {c : ConfS} {i a : Nat} (h : a < i) : knK c i a = (c.ps.getD a peer0).ns.length := if_pos h
theorem knK_ge {c : ConfS} {i a : Nat} (h : ¬ a < i) : knK c i a = 0 := if_neg h
theorem knK_all {c : ConfS} (a : Nat) : knK c c.ps.length a = (c.ps.getD a peer0).ns.length := by
  by_cases h : a < c.ps.length
  · exact if_pos h
  · rw [knK_ge h, List.getD_eq_getElem?_getD, List.getElem?_eq_none (by omega)]; rfl
theorem raJ_5 {n : Nat} {f g h : Nat → Nat → EV} (h1 : ∀ a, a < n → ∀ j, j < 5 → f a j = h a j) (h2 : ∀ j, j < 5 → toL n (g 0 j) = h n j) : ∀ a, a < n + 1 → ∀ j, j < 5 → raJ n f g a j = h a j := fun a ha j hj => by
  unfold raJ
  by_cases e : a < n
  · rw [show Nat.blt a n = true from Nat.blt_eq.mpr e]; exact h1 a e j hj
  · obtain rfl : a = n := by omega
    have : Nat.blt a a = false := by
      cases hb : Nat.blt a a with
      | false => rfl
      | true => rw [Nat.blt_eq] at hb; omega
    rw [this]; exact h2 j hj
theorem toL_5 {n : Nat} {g h : Nat → EV} (h0 : toL n (g 0) = h 0) (h1 : toL n (g 1) = h 1) (h2 : toL n (g 2) = h 2) (h3 : toL n (g 3) = h 3) (h4 : toL n (g 4) = h 4) : ∀ j, j < 5 → toL n (g j) = h j := fun j hj => by
  have : j = 0 ∨ j = 1 ∨ j = 2 ∨ j = 3 ∨ j = 4 := by omega
  rcases this with rfl | rfl | rfl | rfl | rfl <;> assumption
set_option maxRecDepth 100000 in
set_option maxHeartbeats 4000000 in
theorem cf_CopyKO {c : ConfS} (hl : c.ps.length ≤ 6) (h8 : ∀ p ∈ c.ps, p.ns.length ≤ 1000000) : Cf Tryz.prog 64 [] [confE c] [(60, .ra c.ps.length 5 (fun i j => peerK (c.ps.getD i peer0) i j) 33 [7000, 7001, 7002, 7003, 7004, 7005]), (7000, .rz ((c.ps.getD 0 peer0).ns.length) 2 ((fun x y => netC (((c.ps.getD 0 peer0).ns).getD x []) y)) 36 0), (7001, .rz ((c.ps.getD 1 peer0).ns.length) 2 ((fun x y => netC (((c.ps.getD 1 peer0).ns).getD x []) y)) 36 0), (7002, .rz ((c.ps.getD 2 peer0).ns.length) 2 ((fun x y => netC (((c.ps.getD 2 peer0).ns).getD x []) y)) 36 0), (7003, .rz ((c.ps.getD 3 peer0).ns.length) 2 ((fun x y => netC (((c.ps.getD 3 peer0).ns).getD x []) y)) 36 0), (7004, .rz ((c.ps.getD 4 peer0).ns.length) 2 ((fun x y => netC (((c.ps.getD 4 peer0).ns).getD x []) y)) 36 0), (7005, .rz ((c.ps.getD 5 peer0).ns.length) 2 ((fun x y => netC (((c.ps.getD 5 peer0).ns).getD x []) y)) 36 0)] (.agg [.s c.k, .i c.port, .osl 60 c.ps.length]) := by
  refine Cf.introR tabT {rk := [(9, 36, 2, [7000, 7001, 7002, 7003, 7004, 7005])]} D0 (by kernel_rfl) tab_ok Tryz.func64 Tryz.ntmps64 rfl rfl (D0_ok) (by kernel_rfl) ?_
  repeat (refine Ob.mk ?_ ?_; focus (omega))
  refine ⟨Nat, fun i => ⟨[(1, .own 1001 0), (2, .own 1002 0), (3, .osl 61 i), (11, peersE c.ps), (12, .i (c.ps.length : Int)), (13, .i (i : Int))], [(1001, .box [.s c.k, .i c.port, peersE c.ps] 25), (1002, .box [.s [], .i 0, .nil] 25), (61, .ra i 5 (fun a b => peerK (c.ps.getD a peer0) a b) 33 [7000, 7001, 7002, 7003, 7004, 7005]), (7000, .rz (knK c i 0) 2 ((fun x y => netC (((c.ps.getD 0 peer0).ns).getD x []) y)) 36 0), (7001, .rz (knK c i 1) 2 ((fun x y => netC (((c.ps.getD 1 peer0).ns).getD x []) y)) 36 0), (7002, .rz (knK c i 2) 2 ((fun x y => netC (((c.ps.getD 2 peer0).ns).getD x []) y)) 36 0), (7003, .rz (knK c i 3) 2 ((fun x y => netC (((c.ps.getD 3 peer0).ns).getD x []) y)) 36 0), (7004, .rz (knK c i 4) 2 ((fun x y => netC (((c.ps.getD 4 peer0).ns).getD x []) y)) 36 0), (7005, .rz (knK c i 5) 2 ((fun x y => netC (((c.ps.getD 5 peer0).ns).getD x []) y)) 36 0)]⟩, fun i => i ≤ c.ps.length, fun i => c.ps.length - i, 0, Nat.zero_le _, ?_, fun i hx1 => ?_⟩
  · skip
    repeat (refine Ob.mk ?_ ?_; (focus (first | (exact (knK_ge (by decide)).symm) | (exact Eq.refl _) | omega | (intro hg; ((intro hq; ((simp_all; done))))))))
    trivial
  refine ⟨fun h1 => ?_, fun h1 => ?_⟩
  · skip
    have c1 := h1
    (simp only [bsX] at c1)
    have hi : i < c.ps.length := by omega
    rcases (by omega : i = 0 ∨ i = 1 ∨ i = 2 ∨ i = 3 ∨ i = 4 ∨ i = 5) with rfl | rfl | rfl | rfl | rfl | rfl
    · skip
      repeat (refine Ob.mk ?_ ?_; focus (first | assumption | omega))
      refine ⟨_, _, _, _, (cf_nCloneO (ns := (c.ps.getD 0 peer0).ns) (h8 _ (pA_mem hi))), ?_⟩
      repeat (refine Ob.mk ?_ ?_; (focus (first | (exact fun a ha b _ => noL_K (Nat.ne_of_lt ha) b) | (exact isL_5 rfl rfl rfl rfl rfl) | (exact Eq.refl _) | omega | (intro hg; ((intro hq; ((simp_all; done))))))))
      refine ⟨0 + 1, (by assumption), (by (simp only [SrcE.len, Nat.zero_add, List.length_append, List.length_cons, List.length_nil]; omega)), ?_⟩
      repeat (refine Ob.mk ?_ ?_; (focus (first | (exact (knK_lt (by decide)).symm) | (rw [knK_ge (by decide), knK_ge (by decide)]; done) | (exact raJ_5 (fun _ _ _ _ => rfl) (toL_5 (Eq.refl _) (Eq.refl _) (Eq.refl _) (Eq.refl _) (Eq.refl _))) | (exact Eq.refl _) | omega | (intro hg; ((intro hq; ((simp_all; done))))))))
      trivial
    · skip
      repeat (refine Ob.mk ?_ ?_; focus (first | assumption | omega))
      refine ⟨_, _, _, _, (cf_nCloneO (ns := (c.ps.getD 1 peer0).ns) (h8 _ (pA_mem hi))), ?_⟩
      repeat (refine Ob.mk ?_ ?_; (focus (first | (exact fun a ha b _ => noL_K (Nat.ne_of_lt ha) b) | (exact isL_5 rfl rfl rfl rfl rfl) | (exact Eq.refl _) | omega | (intro hg; ((intro hq; ((simp_all; done))))))))
      refine ⟨1 + 1, (by assumption), (by (simp only [SrcE.len, Nat.zero_add, List.length_append, List.length_cons, List.length_nil]; omega)), ?_⟩
      repeat (refine Ob.mk ?_ ?_; (focus (first | (exact knK_lt (by decide)) | (exact (knK_lt (by decide)).symm) | (rw [knK_ge (by decide), knK_ge (by decide)]; done) | (exact raJ_5 (fun _ _ _ _ => rfl) (toL_5 (Eq.refl _) (Eq.refl _) (Eq.refl _) (Eq.refl _) (Eq.refl _))) | (exact Eq.refl _) | omega | (intro hg; ((intro hq; ((simp_all; done))))))))
      trivial
    · skip
      repeat (refine Ob.mk ?_ ?_; focus (first | assumption | omega))
      refine ⟨_, _, _, _, (cf_nCloneO (ns := (c.ps.getD 2 peer0).ns) (h8 _ (pA_mem hi))), ?_⟩
      repeat (refine Ob.mk ?_ ?_; (focus (first | (exact fun a ha b _ => noL_K (Nat.ne_of_lt ha) b) | (exact isL_5 rfl rfl rfl rfl rfl) | (exact Eq.refl _) | omega | (intro hg; ((intro hq; ((simp_all; done))))))))
      refine ⟨2 + 1, (by assumption), (by (simp only [SrcE.len, Nat.zero_add, List.length_append, List.length_cons, List.length_nil]; omega)), ?_⟩
      repeat (refine Ob.mk ?_ ?_; (focus (first | (exact knK_lt (by decide)) | (exact (knK_lt (by decide)).symm) | (rw [knK_ge (by decide), knK_ge (by decide)]; done) | (exact raJ_5 (fun _ _ _ _ => rfl) (toL_5 (Eq.refl _) (Eq.refl _) (Eq.refl _) (Eq.refl _) (Eq.refl _))) | (exact Eq.refl _) | omega | (intro hg; ((intro hq; ((simp_all; done))))))))
      trivial
    · skip
      repeat (refine Ob.mk ?_ ?_; focus (first | assumption | omega))
      refine ⟨_, _, _, _, (cf_nCloneO (ns := (c.ps.getD 3 peer0).ns) (h8 _ (pA_mem hi))), ?_⟩
      repeat (refine Ob.mk ?_ ?_; (focus (first | (exact fun a ha b _ => noL_K (Nat.ne_of_lt ha) b) | (exact isL_5 rfl rfl rfl rfl rfl) | (exact Eq.refl _) | omega | (intro hg; ((intro hq; ((simp_all; done))))))))
      refine ⟨3 + 1, (by assumption), (by (simp only [SrcE.len, Nat.zero_add, List.length_append, List.length_cons, List.length_nil]; omega)), ?_⟩
      repeat (refine Ob.mk ?_ ?_; (focus (first | (exact knK_lt (by decide)) | (exact (knK_lt (by decide)).symm) | (rw [knK_ge (by decide), knK_ge (by decide)]; done) | (exact raJ_5 (fun _ _ _ _ => rfl) (toL_5 (Eq.refl _) (Eq.refl _) (Eq.refl _) (Eq.refl _) (Eq.refl _))) | (exact Eq.refl _) | omega | (intro hg; ((intro hq; ((simp_all; done))))))))
      trivial
    · skip
      repeat (refine Ob.mk ?_ ?_; focus (first | assumption | omega))
      refine ⟨_, _, _, _, (cf_nCloneO (ns := (c.ps.getD 4 peer0).ns) (h8 _ (pA_mem hi))), ?_⟩
      repeat (refine Ob.mk ?_ ?_; (focus (first | (exact fun a ha b _ => noL_K (Nat.ne_of_lt ha) b) | (exact isL_5 rfl rfl rfl rfl rfl) | (exact Eq.refl _) | omega | (intro hg; ((intro hq; ((simp_all; done))))))))
      refine ⟨4 + 1, (by assumption), (by (simp only [SrcE.len, Nat.zero_add, List.length_append, List.length_cons, List.length_nil]; omega)), ?_⟩
      repeat (refine Ob.mk ?_ ?_; (focus (first | (exact knK_lt (by decide)) | (exact (knK_lt (by decide)).symm) | (rw [knK_ge (by decide), knK_ge (by decide)]; done) | (exact raJ_5 (fun _ _ _ _ => rfl) (toL_5 (Eq.refl _) (Eq.refl _) (Eq.refl _) (Eq.refl _) (Eq.refl _))) | (exact Eq.refl _) | omega | (intro hg; ((intro hq; ((simp_all; done))))))))
      trivial
    · skip
      repeat (refine Ob.mk ?_ ?_; focus (first | assumption | omega))
      refine ⟨_, _, _, _, (cf_nCloneO (ns := (c.ps.getD 5 peer0).ns) (h8 _ (pA_mem hi))), ?_⟩
      repeat (refine Ob.mk ?_ ?_; (focus (first | (exact fun a ha b _ => noL_K (Nat.ne_of_lt ha) b) | (exact isL_5 rfl rfl rfl rfl rfl) | (exact Eq.refl _) | omega | (intro hg; ((intro hq; ((simp_all; done))))))))
      refine ⟨5 + 1, (by assumption), (by (simp only [SrcE.len, Nat.zero_add, List.length_append, List.length_cons, List.length_nil]; omega)), ?_⟩
      repeat (refine Ob.mk ?_ ?_; (focus (first | (exact knK_lt (by decide)) | (exact (knK_lt (by decide)).symm) | (exact raJ_5 (fun _ _ _ _ => rfl) (toL_5 (Eq.refl _) (Eq.refl _) (Eq.refl _) (Eq.refl _) (Eq.refl _))) | (exact Eq.refl _) | omega | (intro hg; ((intro hq; ((simp_all; done))))))))
      trivial
  · skip
    have c1 := h1
    (simp only [bsX] at c1)
    have hi : i = c.ps.length := by omega
    subst hi
    repeat (refine Ob.mk ?_ ?_; (focus (first | (exact knK_all _) | (exact Eq.refl _) | omega | (intro hg; ((intro hq; ((simp_all; done))))))))
    trivial
end Go.Proofs.YtcebndkiagbddaaGreatDoor

namespace Go.Proofs.YtcebndkiagbddaaGreatDoor
open Go.RowKit
set_option linter.unusedVariables false
set_option linter.unusedSimpArgs false

end Go.Proofs.YtcebndkiagbddaaGreatDoor

namespace Go.Proofs.YtcebndkiagbddaaGreatDoor
open Go.RowKit
set_option linter.unusedVariables false
set_option linter.unusedSimpArgs false

end Go.Proofs.YtcebndkiagbddaaGreatDoor

namespace Go.Proofs.YtcebndkiagbddaaGreatDoor
open Go.RowKit
set_option linter.unusedVariables false
set_option linter.unusedSimpArgs false

/-- How many nets of a row stand before one. -/
def lbN (ns : List (List Bool)) (n : List Bool) : Nat := ns.countP fun p => ltB p n
structure BsI (ns : List (List Bool)) (n : List Bool) (lo hi : Nat) : Prop where
  le : lo ≤ hi
  len : hi ≤ ns.length
  lt : ∀ i, i < lo → ltB (ns.getD i []) n = true
  ge : ∀ i, hi ≤ i → i < ns.length → ltB (ns.getD i []) n = false
theorem BsI.fin {ns : List (List Bool)} {n : List Bool} {lo : Nat} (h : BsI ns n lo lo) : lbN ns n = lo := by
  unfold lbN
  rw [← List.take_append_drop lo ns, List.countP_append]
  have h1 : (ns.take lo).countP (fun p => ltB p n) = lo := by
    have : (ns.take lo).length = lo := by rw [List.length_take]; have := h.len; omega
    rw [List.countP_eq_length.2 (fun p hp => ?_), this]
    obtain ⟨i, hi, e⟩ := List.mem_iff_getElem.1 hp
    rw [List.getElem_take] at e
    have := h.lt i (by rw [List.length_take] at hi; omega)
    rw [List.getD_eq_getElem?_getD, List.getElem?_eq_getElem (by rw [List.length_take] at hi; omega)] at this
    rw [← e]; exact this
  have h2 : (ns.drop lo).countP (fun p => ltB p n) = 0 := by
    rw [List.countP_eq_zero]
    intro p hp
    obtain ⟨i, hi, e⟩ := List.mem_iff_getElem.1 hp
    rw [List.getElem_drop] at e
    rw [List.length_drop] at hi
    have := h.ge (lo + i) (by omega) (by omega)
    rw [List.getD_eq_getElem?_getD, List.getElem?_eq_getElem (by omega)] at this
    rw [← e]; simpa using this
  rw [h1, h2]; rfl
end Go.Proofs.YtcebndkiagbddaaGreatDoor

namespace Go.Proofs.YtcebndkiagbddaaGreatDoor
open Go.RowKit
set_option linter.unusedVariables false
set_option linter.unusedSimpArgs false

/-! ### move -/
def delP (n : List Bool) (p : PeerS) : PeerS := ⟨p.k, p.s, p.e, p.a, delN p.ns n⟩
/-- A net taken from the first so many peers. -/
def psD (ps : List PeerS) (n : List Bool) (i : Nat) : List PeerS := (ps.take i).map (delP n) ++ ps.drop i
/-- What is asked of the peers. -/
structure PsOk (ps : List PeerS) : Prop where
  len : ps.length ≤ 6
  nl : ∀ a, (ps.getD a peer0).ns.length ≤ 8
  nb : ∀ a, ∀ x ∈ (ps.getD a peer0).ns, x.length ≤ 32
  ns : ∀ a, riseN (ps.getD a peer0).ns
/-- Both outcomes. -/
def fullQ (ps : List PeerS) (i : Nat) (n : List Bool) : Prop := ((psD ps n ps.length).getD i peer0).ns.length = 8
instance (ps : List PeerS) (i : Nat) (n : List Bool) : Decidable (fullQ ps i n) := by unfold fullQ; exact inferInstance
end Go.Proofs.YtcebndkiagbddaaGreatDoor

namespace Go.Proofs.YtcebndkiagbddaaGreatDoor
open Go.RowKit
set_option linter.unusedVariables false
set_option linter.unusedSimpArgs false

abbrev cbK (a b : List UInt8) : Int := Go.Lib.compareBytes a b
/-- How many peers stand before a key. -/
def lbP (ps : List PeerS) (k : List UInt8) : Nat := ps.countP fun p => decide (cbK p.k k < 0)
structure BpI (ps : List PeerS) (k : List UInt8) (lo hi : Nat) : Prop where
  le : lo ≤ hi
  len : hi ≤ ps.length
  lt : ∀ i, i < lo → cbK (ps.getD i peer0).k k < 0
  ge : ∀ i, hi ≤ i → i < ps.length → ¬ cbK (ps.getD i peer0).k k < 0
theorem BpI.fin {ps : List PeerS} {k : List UInt8} {lo : Nat} (h : BpI ps k lo lo) : lbP ps k = lo := by
  unfold lbP
  rw [← List.take_append_drop lo ps, List.countP_append]
  have h1 : (ps.take lo).countP (fun p => decide (cbK p.k k < 0)) = lo := by
    have : (ps.take lo).length = lo := by rw [List.length_take]; have := h.len; omega
    rw [List.countP_eq_length.2 (fun p hp => ?_), this]
    obtain ⟨i, hi, e⟩ := List.mem_iff_getElem.1 hp
    rw [List.getElem_take] at e
    have := h.lt i (by rw [List.length_take] at hi; omega)
    rw [List.getD_eq_getElem?_getD, List.getElem?_eq_getElem (by rw [List.length_take] at hi; omega)] at this
    rw [← e]; exact decide_eq_true this
  have h2 : (ps.drop lo).countP (fun p => decide (cbK p.k k < 0)) = 0 := by
    rw [List.countP_eq_zero]
    intro p hp
    obtain ⟨i, hi, e⟩ := List.mem_iff_getElem.1 hp
    rw [List.getElem_drop] at e
    rw [List.length_drop] at hi
    have := h.ge (lo + i) (by omega) (by omega)
    rw [List.getD_eq_getElem?_getD, List.getElem?_eq_getElem (by omega)] at this
    rw [← e]; simpa using this
  rw [h1, h2]; rfl
end Go.Proofs.YtcebndkiagbddaaGreatDoor

namespace Go.Proofs.YtcebndkiagbddaaGreatDoor
open Go.RowKit
set_option linter.unusedVariables false
set_option linter.unusedSimpArgs false

set_option maxRecDepth 100000 in
set_option maxHeartbeats 4000000 in
theorem cf_gPortO {c : ConfS} {n : Int} : Cf Tryz.prog 111 [(0, .box [.s c.k, .i c.port, .osl 1 c.ps.length] 25), (1, .rz (c.ps).length 5 (fun i j => peerC ((c.ps).getD i peer0) j) 33 0)] [.own 0 0, .agg [.i 2, .s [], .i n, .u32 0, .i 0]] [(0, .box [.s c.k, .i n, .osl 1 c.ps.length] 25), (1, .rz (c.ps).length 5 (fun i j => peerC ((c.ps).getD i peer0) j) 33 0)] (.tup [.b true, .i 0]) := by
  refine Cf.introR tabT {} (DR _ _ _ tabT {}) (by kernel_rfl) tab_ok Tryz.func111 Tryz.ntmps111 rfl rfl (DR_ok tab_ok (by kernel_rfl)) (by kernel_rfl) ?_
  refine knF ?_
  refine knT ?_
  repeat (refine Ob.mk ?_ ?_; focus (first | (exact fun _ _ _ _ => rfl) | (exact Eq.refl _) | omega))
  trivial
end Go.Proofs.YtcebndkiagbddaaGreatDoor

namespace Go.Proofs.YtcebndkiagbddaaGreatDoor
open Go.RowKit
set_option linter.unusedVariables false
set_option linter.unusedSimpArgs false

end Go.Proofs.YtcebndkiagbddaaGreatDoor

namespace Go.Proofs.YtcebndkiagbddaaGreatDoor
open Go.RowKit
set_option linter.unusedVariables false
set_option linter.unusedSimpArgs false

end Go.Proofs.YtcebndkiagbddaaGreatDoor

namespace Go.Proofs.YtcebndkiagbddaaGreatDoor
open Go.RowKit
set_option linter.unusedVariables false
set_option linter.unusedSimpArgs false

set_option maxRecDepth 100000 in
set_option maxHeartbeats 4000000 in
theorem cf_one2O {c : ConfS} {at_ : List UInt8} {n : Int} : Cf Tryz.prog 70 [(0, .box [.s c.k, .i c.port, .osl 1 c.ps.length] 25), (1, .rz (c.ps).length 5 (fun u v => peerC ((c.ps).getD u peer0) v) 33 0)] [.own 0 0, .s at_, .agg [.i 2, .s [], .i n, .u32 0, .i 0]] [(0, .box [.s c.k, .i n, .osl 1 c.ps.length] 25), (1, .rz (c.ps).length 5 (fun u v => peerC ((c.ps).getD u peer0) v) 33 0)] (.tup [.s [], .i 0]) := by
  refine Cf.introR tabT {} (DR _ _ _ tabT {}) (by kernel_rfl) tab_ok Tryz.func70 Tryz.ntmps70 rfl rfl (DR_ok tab_ok (by kernel_rfl)) (by kernel_rfl) ?_
  refine ⟨_, _, _, _, (cf_gPortO (c := c) (n := n)), ?_⟩
  repeat (refine Ob.mk ?_ ?_; focus (first | (exact fun _ _ _ _ => rfl) | (exact Eq.refl _) | omega))
  refine knT ?_
  repeat (refine Ob.mk ?_ ?_; focus (first | (exact fun _ _ _ _ => rfl) | (exact Eq.refl _) | omega))
  trivial
end Go.Proofs.YtcebndkiagbddaaGreatDoor

namespace Go.Proofs.YtcebndkiagbddaaGreatDoor
open Go.Lib
set_option linter.unusedVariables false
set_option linter.unusedSimpArgs false

/-! ### Keys in order -/
/-! ### Where a key stands -/
theorem getP_mem {ps : List PeerS} {i : Nat} (hi : i < ps.length) : ps.getD i peer0 ∈ ps := by
  rw [List.getD_eq_getElem?_getD, List.getElem?_eq_getElem hi]; exact List.getElem_mem hi
theorem ok_PsOk {c : ConfS} (h : ConfOk c) : PsOk c.ps := by
  have g : ∀ a, (c.ps.getD a peer0 ∈ c.ps) ∨ c.ps.getD a peer0 = peer0 := fun a => by
    by_cases q : a < c.ps.length
    · exact .inl (getP_mem q)
    · right; rw [List.getD_eq_getElem?_getD, List.getElem?_eq_none (by omega)]; rfl
  refine ⟨h.pl, fun a => ?_, fun a x hx => ?_, fun a => ?_⟩
  · rcases g a with q | q
    · exact (h.ps _ q).1.nl
    · rw [q]; decide
  · rcases g a with q | q
    · exact (h.ps _ q).1.nb x hx
    · rw [q] at hx; cases hx
  · rcases g a with q | q
    · exact (h.ps _ q).1.ns
    · rw [q]; exact List.Pairwise.nil
/-! ### One setting -/
def fullP (c : ConfS) (i : Nat) (n : List Bool) : Prop := ((psD c.ps n c.ps.length).getD i peer0).ns.length = 8
instance (c : ConfS) (i : Nat) (n : List Bool) : Decidable (fullP c i n) := by unfold fullP; exact inferInstance
/-! ### What may be, stays so -/
/-! ### Many settings -/
end Go.Proofs.YtcebndkiagbddaaGreatDoor

namespace Go.Proofs.YtcebndkiagbddaaGreatDoor
open Go.RowKit
set_option linter.unusedVariables false
set_option linter.unusedSimpArgs false

theorem insJ_T {j : Nat} {L : List (List Bool)} (h : 0 < j) (hlt : ltB (L.getD j []) (L.getD (j - 1) []) = true) : insJ j L = insJ (j - 1) (swp L (j - 1)) := by
  obtain ⟨k, rfl⟩ : ∃ k, j = k + 1 := ⟨j - 1, by omega⟩
  exact if_pos hlt
theorem insJ_F {j : Nat} {L : List (List Bool)} (h : ¬ (0 < j ∧ ltB (L.getD j []) (L.getD (j - 1) []) = true)) : insJ j L = L := by
  cases j with
  | zero => rfl
  | succ k =>
    exact if_neg fun q => h ⟨Nat.succ_pos k, q⟩
theorem ord_neg {p q : List Bool} : ordN p q < 0 ↔ ltB p q = true := by
  unfold ordN
  by_cases h : ltB p q = true
  · rw [if_pos h]; exact ⟨fun _ => h, fun _ => by decide⟩
  · rw [if_neg h]
    refine ⟨fun k => ?_, fun k => absurd k h⟩
    split at k <;> omega
theorem swp_mem {L : List (List Bool)} {j : Nat} (h : ∀ x ∈ L, x.length ≤ 32) : ∀ x ∈ swp L j, x.length ≤ 32 := fun x hx => by
  unfold swp at hx
  rcases List.mem_or_eq_of_mem_set hx with k | k
  · rcases List.mem_or_eq_of_mem_set k with k | k
    · exact h x k
    · rw [k]; exact nsAt_32 h _
  · rw [k]; exact nsAt_32 h _
theorem stN_swp {L M : List (List Bool)} {j i m : Nat} {u v : List Bool} {X Y : List EV} (hX : X = [.u32 (adr v), .i (v.length : Int)]) (hY : Y = [.u32 (adr u), .i (u.length : Int)]) (hi : i < L.length) (hj : j < L.length) (hM : M = (L.set i v).set j u) : ∀ a, a < m → ∀ b, b < 2 → stZ (stZ (fun i j => netC (L.getD i []) j) i 0 X) j 0 Y a b = netC (M.getD a []) b := by
  intro a ha b hb
  have h1 := stN_set (m := m) hX hi (Eq.refl _) a ha b hb
  have h2 := stN_set (L := L.set i v) (m := m) hY (by rw [List.length_set]; exact hj) hM a ha b hb
  rw [← h2]
  unfold stZ at h1 ⊢
  rw [h1]
set_option maxRecDepth 100000 in
set_option maxHeartbeats 4000000 in
theorem cf_nIns {ns : List (List Bool)} (hl : ns.length ≤ 1000) (hb : ∀ x ∈ ns, x.length ≤ 32) : Cf Tryz.prog 134 [(0, .rz ns.length 2 (fun i j => netC (ns.getD i []) j) 36 0)] [.osl 0 ns.length, .i 0, .i (ns.length : Int), .v (.func (.func 53) #[] #[])] [(0, .rz ns.length 2 (fun i j => netC ((sortN ns).getD i []) j) 36 0)] (.tup []) := by
  refine Cf.introR tabT {} (DR _ _ _ tabT {}) (by kernel_rfl) tab_ok Tryz.func134 Tryz.ntmps134 rfl rfl (DR_ok tab_ok (by kernel_rfl)) (by kernel_rfl) ?_
  repeat (refine Ob.mk ?_ ?_; focus (omega))
  refine ⟨Nat, fun k => ⟨[(0, .osl 0 ns.length), (1, .i 0), (2, .i (ns.length : Int)), (3, .v (.func (.func 53) #[] #[])), (8, .i ((k : Int) + 1))], [(0, .rz ns.length 2 (fun i j => netC ((insN ns k).getD i []) j) 36 0)]⟩, fun k => (k = 0 ∨ k + 1 ≤ ns.length) ∧ ∀ x ∈ insN ns k, x.length ≤ 32, fun k => ns.length - k, 0, ⟨.inl rfl, hb⟩, ?_, fun k hx1 => ?_⟩
  · skip
    repeat (refine Ob.mk ?_ ?_; focus (first | (exact fun _ _ _ _ => rfl) | (exact Eq.refl _) | omega))
    trivial
  refine ⟨fun h1 => ?_, fun h1 => ?_⟩
  · skip
    have c1 := h1
    (simp only [bsX] at c1)
    have hk : k + 1 < ns.length := by omega
    refine ⟨Nat × List (List Bool), fun s => ⟨[(0, .osl 0 ns.length), (1, .i 0), (2, .i (ns.length : Int)), (3, .v (.func (.func 53) #[] #[])), (8, .i ((k : Int) + 1)), (9, .i (s.1 : Int))], [(0, .rz ns.length 2 (fun i j => netC (s.2.getD i []) j) 36 0)]⟩, fun s => s.1 ≤ k + 1 ∧ s.2.length = ns.length ∧ insJ s.1 s.2 = insN ns (k + 1) ∧ ∀ x ∈ s.2, x.length ≤ 32, fun s => s.1, (k + 1, insN ns k), ⟨Nat.le_refl _, insN_len ns k, rfl, hx1.2⟩, ?_, fun s hx2 => ?_⟩
    · skip
      repeat (refine Ob.mk ?_ ?_; focus (first | (exact fun _ _ _ _ => rfl) | (exact Eq.refl _) | omega))
      trivial
    refine ⟨[0, 0, 3, 7, 15, 15, 15, 111, 239, 15, 15, 1039, 3599, 7695, 16383, 32767, 65535], by kernel_rfl, ?_⟩
    repeat (refine Ob.mk ?_ ?_; (focus (first | omega | (exact fun hg => hg) | (intro hg; ((simp at hg; omega))))))
    refine gx (fun hc => (cf_order (p := s.2.getD s.1 []) (q := s.2.getD (s.1 - 1) []) (nsAt_32 hx2.2.2.2 s.1))) (fun hk => ⟨hk, ?_⟩)
    repeat (refine Ob.mk ?_ ?_; (focus (first | (intro _; exact Eq.refl _) | (exact fun hg => beq_t hg) | (exact fun hg => hg) | (intro hg; ((simp_all; done))))))
    refine ⟨fun h2 => ?_, fun h2 => ?_⟩
    · skip
      have c2 := h2
      (simp only [bsX] at c2)
      have hj : 0 < s.1 := by have := (c2).1; omega
      have hlt := ord_neg.1 (c2).2
      have e1 : ((s.1 : Int) - 1).toNat = s.1 - 1 := by omega
      have hM : swp s.2 (s.1 - 1) = (s.2.set s.1 (s.2.getD ((s.1 : Int) - 1).toNat [])).set ((s.1 : Int) - 1).toNat (s.2.getD s.1 []) := by rw [e1]; unfold swp; rw [Nat.sub_add_cancel hj]
      have hnx : s.1 - 1 ≤ k + 1 ∧ (swp s.2 (s.1 - 1)).length = ns.length ∧ insJ (s.1 - 1) (swp s.2 (s.1 - 1)) = insN ns (k + 1) ∧ ∀ x ∈ swp s.2 (s.1 - 1), x.length ≤ 32 := ⟨by have := hx2.1; omega, (swp_len _ _).trans hx2.2.1, (insJ_T hj hlt).symm.trans hx2.2.2.1, swp_mem hx2.2.2.2⟩
      have hle := hx2.1
      have hlen := hx2.2.1
      refine ⟨[0, 0, 0, 0, 8, 0, 0, 64, 224, 480, 0, 0, 3072, 7168, 16355, 32739, 65535, 131071], by kernel_rfl, ?_⟩
      repeat (refine Ob.mk ?_ ?_; focus (omega))
      refine ⟨(s.1 - 1, swp s.2 (s.1 - 1)), (by assumption), (by (simp only [SrcE.len, Nat.zero_add, List.length_append, List.length_cons, List.length_nil]; omega)), ?_⟩
      repeat (refine Ob.mk ?_ ?_; focus (first | (exact stN_swp (u := s.2.getD s.1 []) (v := s.2.getD ((s.1 : Int) - 1).toNat []) rfl rfl (show s.1 < s.2.length by omega) (by omega) hM) | (exact Eq.refl _) | omega))
      trivial
    · skip
      have c2 := h2
      (simp only [bsX] at c2)
      have hE : s.2 = insN ns (k + 1) := (insJ_F (fun q => by have h1 := ord_neg.2 q.2; have h2 := q.1; omega)).symm.trans hx2.2.2.1
      have hnx : (k + 1 = 0 ∨ k + 1 + 1 ≤ ns.length) ∧ ∀ x ∈ insN ns (k + 1), x.length ≤ 32 := ⟨by omega, hE ▸ hx2.2.2.2⟩
      repeat (refine Ob.mk ?_ ?_; focus (omega))
      refine ⟨k + 1, (by assumption), (by (simp only [SrcE.len, Nat.zero_add, List.length_append, List.length_cons, List.length_nil]; omega)), ?_⟩
      repeat (refine Ob.mk ?_ ?_; focus (first | (exact hE ▸ fun _ _ _ _ => rfl) | (exact Eq.refl _) | omega))
      trivial
  · skip
    have c1 := h1
    (simp only [bsX] at c1)
    have hO := insN_end (l := ns) (i := k + 1) (by omega) (by omega) (by omega)
    repeat (refine Ob.mk ?_ ?_; focus (first | (exact hO ▸ fun _ _ _ _ => rfl) | (exact Eq.refl _) | omega))
    trivial
set_option maxRecDepth 100000 in
set_option maxHeartbeats 4000000 in
theorem cf_nPdq {ns : List (List Bool)} {lim : Int} (hl : ns.length ≤ 12) (hb : ∀ x ∈ ns, x.length ≤ 32) : Cf Tryz.prog 96 [(0, .rz ns.length 2 (fun i j => netC (ns.getD i []) j) 36 0)] [.osl 0 ns.length, .i 0, .i (ns.length : Int), .i lim, .v (.func (.func 53) #[] #[])] [(0, .rz ns.length 2 (fun i j => netC ((sortN ns).getD i []) j) 36 0)] (.tup []) := by
  refine Cf.introR tabT {} (DR _ _ _ tabT {}) (by kernel_rfl) tab_ok Tryz.func96 Tryz.ntmps96 rfl rfl (DR_ok tab_ok (by kernel_rfl)) (by kernel_rfl) ?_
  refine ⟨Nat, fun k => ⟨[(0, .osl 0 ns.length), (1, .i 0), (2, .i (ns.length : Int)), (4, .v (.func (.func 53) #[] #[]))], [(0, .rz ns.length 2 (fun i j => netC (ns.getD i []) j) 36 0)]⟩, fun k => True, fun k => 0, 0, trivial, ?_, fun k hx1 => ?_⟩
  · skip
    repeat (refine Ob.mk ?_ ?_; (focus (first | (exact Eq.refl _) | omega | (intro hg; ((intro hq; ((simp_all; done))))))))
    trivial
  repeat (refine Ob.mk ?_ ?_; focus (omega))
  refine ⟨fun h1 => ?_, fun h1 => ?_⟩
  · skip
    have c1 := h1
    (simp only [bsX] at c1)
    refine ⟨_, _, _, _, (cf_nIns (Nat.le_trans hl (by decide)) hb), ?_⟩
    repeat (refine Ob.mk ?_ ?_; (focus (first | (exact Eq.refl _) | omega | (intro hg; ((intro hq; ((simp_all; done))))))))
    trivial
  · skip
    have c1 := h1
    (simp only [bsX] at c1)
    exact absurd c1 (by omega)
theorem cf_bLen {c : UInt64} : Cf Tryz.prog 97 [] [.u64 c] [] (.i (Lib.bitLen c.toNat : Int)) :=
  Cf.of (by kernel_rfl) fun w Pub φ vs hp hR => by
    obtain ⟨u, rfl, h1⟩ := ra1 hR
    have e : u = .int .u64 (c.toNat : Int) := by unfold EV.av RA RP at h1; exact h1
    subst e
    refine (Tryz.bits_Len (c.toNat : Int) w (by omega) (by have := c.toNat_lt; omega)).mono ?_
    rintro e w' ⟨rfl, rfl⟩
    exact ⟨by rw [Int.toNat_natCast], Below.refl _ _⟩
set_option maxRecDepth 100000 in
set_option maxHeartbeats 4000000 in
theorem cf_nSort {ns : List (List Bool)} (hl : ns.length ≤ 12) (hb : ∀ x ∈ ns, x.length ≤ 32) : Cf Tryz.prog 52 [(0, .rz ns.length 2 (fun i j => netC (ns.getD i []) j) 36 0)] [.osl 0 ns.length, .v (.func (.func 53) #[] #[])] [(0, .rz ns.length 2 (fun i j => netC ((sortN ns).getD i []) j) 36 0)] (.tup []) := by
  refine Cf.introR tabT {} D0 (by kernel_rfl) tab_ok Tryz.func52 Tryz.ntmps52 rfl rfl (D0_ok) (by kernel_rfl) ?_
  refine ⟨_, _, _, _, (cf_bLen (c := UInt64.ofNat ((ns.length : Int) % 18446744073709551616).toNat)), ?_⟩
  repeat (refine Ob.mk ?_ ?_; focus ((exact Eq.refl _)))
  refine ⟨_, _, _, _, (cf_nPdq (lim := (Lib.bitLen (UInt64.ofNat ((ns.length : Int) % 18446744073709551616).toNat).toNat : Int)) hl hb), ?_⟩
  repeat (refine Ob.mk ?_ ?_; (focus (first | (exact Eq.refl _) | omega | (intro hg; ((intro hq; ((simp_all; done))))))))
  trivial
end Go.Proofs.YtcebndkiagbddaaGreatDoor

