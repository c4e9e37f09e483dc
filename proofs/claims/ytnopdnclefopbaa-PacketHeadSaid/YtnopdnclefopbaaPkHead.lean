/- The header of an encoded packet bears no change of one byte: plain facts. -/
import Derived.Test.YtnopdnclefopbaaGrow
import Derived.Test.YtnopdnclefopbaaPke
namespace Go.Proofs.Ytnopdnclefopbaa
open Go.RowKit
set_option linter.unusedVariables false

theorem Fresh.set {B b : Nat} {w : World} {cs ys : List Value} (f : Fresh B w (.pointer (some ⟨b, 0, none⟩)) cs) (hl : ys.length = cs.length) : Fresh B (setCells w b 0 ys) (.pointer (some ⟨b, 0, none⟩)) ys := by
  obtain ⟨b', e, h1, h2, h3, h4⟩ := f
  injection e with e; injection e with e; injection e with e; subst e
  obtain ⟨w', he, hx, _, hf, hn, _⟩ := stored (w := w) (b := b) ys (fun i hi => Option.isSome_iff_exists.2 ⟨_, h3 i _ (List.getElem?_eq_getElem (by omega))⟩)
  subst he
  exact ⟨b, rfl, h1, by rw [hn]; exact h2, hx, fun o => by rw [hf]; exact h4 o⟩
theorem turnBy_ne (y : UInt8) : turnBy y ≠ 0 := by
  unfold turnBy
  by_cases h : y = 0
  · rw [if_pos h]; decide
  · rw [if_neg h]; exact h
theorem xor_ne (a y : UInt8) : a ^^^ turnBy y ≠ a := fun h => turnBy_ne y (by
  have : a ^^^ (a ^^^ turnBy y) = a ^^^ a := by rw [h]
  rw [← UInt8.xor_assoc, UInt8.xor_self, UInt8.zero_xor] at this
  exact this)
theorem wsum_set : ∀ (l : List UInt8) (i : Nat) (x : UInt8), l.length % 2 = 0 → i < l.length → ∃ c, (c = 256 ∨ c = 1) ∧ wsum (l.set i x) + c * (l.getD i 0).toNat = wsum l + c * x.toNat
  | [], i, x, _, h => by simp at h
  | [a], i, x, h, _ => by simp at h
  | a :: b :: t, 0, x, h, hi => ⟨256, .inl rfl, by simp [wsum]; omega⟩
  | a :: b :: t, 1, x, h, hi => ⟨1, .inr rfl, by simp [wsum]; omega⟩
  | a :: b :: t, i + 2, x, h, hi => by
    simp only [List.length_cons] at h hi
    obtain ⟨c, h1, h2⟩ := wsum_set t i x (by omega) (by omega)
    refine ⟨c, h1, ?_⟩
    simp only [List.set_cons_succ, wsum, List.getD_cons_succ]
    omega
theorem inet_mod {l m : List UInt8} (h : inet l = inet m) : wsum l % 65535 = wsum m % 65535 := by
  unfold inet at h
  have a := fold16_facts (wsum l)
  have b := fold16_facts (wsum m)
  rw [← a.2.1, ← b.2.1, show fold16 (wsum l) = fold16 (wsum m) from by omega]
theorem inet_set (l : List UInt8) (i : Nat) (y : UInt8) (h : l.length % 2 = 0) (hi : i < l.length) : inet (l.set i (l.getD i 0 ^^^ turnBy y)) ≠ inet l := fun he => by
  obtain ⟨c, hc, hs⟩ := wsum_set l i (l.getD i 0 ^^^ turnBy y) h hi
  have hm := inet_mod he
  have h1 := (l.getD i 0).toNat_lt
  have h2 := (l.getD i 0 ^^^ turnBy y).toNat_lt
  refine xor_ne (l.getD i 0) y (UInt8.toNat_inj.1 ?_)
  rcases hc with rfl | rfl <;> omega
theorem ofNat_pair {a b : Nat} (ha : a < 65536) (hb : b < 65536) (h1 : UInt8.ofNat (a / 2 ^ 8) = UInt8.ofNat (b / 2 ^ 8)) (h2 : UInt8.ofNat a = UInt8.ofNat b) : a = b := by
  have e1 := congrArg UInt8.toNat h1
  have e2 := congrArg UInt8.toNat h2
  simp only [UInt8.toNat_ofNat'] at e1 e2
  omega
theorem getD_set (l : List UInt8) (i j : Nat) (x : UInt8) (hi : i < l.length) : (l.set i x).getD j 0 = if i = j then x else l.getD j 0 := by
  simp only [List.getD_eq_getElem?_getD, List.getElem?_set]
  by_cases h : i = j
  · subst h; simp [hi]
  · simp [h]
theorem getD_app (l d : List UInt8) (j : Nat) (h : j < l.length) : (l ++ d).getD j 0 = l.getD j 0 := by
  simp only [List.getD_eq_getElem?_getD, List.getElem?_append_left h]
theorem src_of (l d : List UInt8) (hl : l.length = 20) : pkSrc (l ++ d) = of4 (l.getD 12 0) (l.getD 13 0) (l.getD 14 0) (l.getD 15 0) := by
  unfold pkSrc
  rw [getD_app _ _ _ (by omega), getD_app _ _ _ (by omega), getD_app _ _ _ (by omega), getD_app _ _ _ (by omega)]
theorem dst_of (l d : List UInt8) (hl : l.length = 20) : pkDst (l ++ d) = of4 (l.getD 16 0) (l.getD 17 0) (l.getD 18 0) (l.getD 19 0) := by
  unfold pkDst
  rw [getD_app _ _ _ (by omega), getD_app _ _ _ (by omega), getD_app _ _ _ (by omega), getD_app _ _ _ (by omega)]
def tail8 (l : List UInt8) : List UInt8 := [l.getD 12 0, l.getD 13 0, l.getD 14 0, l.getD 15 0, l.getD 16 0, l.getD 17 0, l.getD 18 0, l.getD 19 0]
theorem head0_of (n : Nat) (l d : List UInt8) (hl : l.length = 20) : pkHead0 n (pkSrc (l ++ d)) (pkDst (l ++ d)) = pk12 n ++ tail8 l := by
  unfold pkHead0 tail8
  rw [src_of l d hl, dst_of l d hl, be4_of4, be4_of4, List.append_assoc]
  rfl
theorem tail8_head (n src dst : Nat) : tail8 (pkHead n src dst) = be4 src ++ be4 dst := rfl
theorem tail8_set (l : List UInt8) (i : Nat) (x : UInt8) (hl : l.length = 20) (h1 : 12 ≤ i) (h2 : i < 20) : tail8 (l.set i x) = (tail8 l).set (i - 12) x := by
  have hc : i = 12 ∨ i = 13 ∨ i = 14 ∨ i = 15 ∨ i = 16 ∨ i = 17 ∨ i = 18 ∨ i = 19 := by omega
  have G : ∀ i j, i < 20 → (l.set i x).getD j 0 = if i = j then x else l.getD j 0 := fun i j h => getD_set l i j x (by omega)
  have d12 := (by decide : 12 < 20); have d13 := (by decide : 13 < 20); have d14 := (by decide : 14 < 20); have d15 := (by decide : 15 < 20); have d16 := (by decide : 16 < 20); have d17 := (by decide : 17 < 20); have d18 := (by decide : 18 < 20); have d19 := (by decide : 19 < 20)
  unfold tail8
  rcases hc with rfl | rfl | rfl | rfl | rfl | rfl | rfl | rfl
  all_goals
   simp only [G _ _ d12, G _ _ d13, G _ _ d14, G _ _ d15, G _ _ d16, G _ _ d17, G _ _ d18, G _ _ d19]
   rfl
theorem head_bad (src dst i : Nat) (d : List UInt8) (y : UInt8) (hs : src < 4294967296) (ht : dst < 4294967296) (hi : i < 20) :
    ¬ pkGood (turned (pkHead (20 + d.length) src dst) i y ++ d) := by
  intro hg
  unfold pkGood at hg
  obtain ⟨n, hn⟩ : ∃ n, n = 20 + d.length := ⟨_, rfl⟩
  rw [← hn] at hg
  obtain ⟨H, hH⟩ : ∃ H, H = pkHead n src dst := ⟨_, rfl⟩
  have hl : H.length = 20 := by rw [hH, pkHead_length]
  have hsrc : of4 (H.getD 12 0) (H.getD 13 0) (H.getD 14 0) (H.getD 15 0) = src := by rw [hH]; exact of4_be4 src hs
  have hdst : of4 (H.getD 16 0) (H.getD 17 0) (H.getD 18 0) (H.getD 19 0) = dst := by rw [hH]; exact of4_be4 dst ht
  rw [← hH] at hg
  obtain ⟨x, hx⟩ : ∃ x, x = H.getD i 0 ^^^ turnBy y := ⟨_, rfl⟩
  have hxne : x ≠ H.getD i 0 := by rw [hx]; exact xor_ne _ _
  have hlen : (H.set i x).length = 20 := by rw [List.length_set, hl]
  unfold turned at hg
  rw [← hx] at hg
  have hdr : (H.set i x ++ d).drop 20 = d := by rw [← hlen]; exact List.drop_left
  rw [hdr] at hg
  unfold pkEnc at hg
  have hh := List.append_cancel_right hg
  rw [← hn] at hh
  clear hg hdr
  by_cases h12 : i < 12
  · have e1 : pkSrc (H.set i x ++ d) = src := by
      rw [src_of _ d hlen, getD_set _ _ _ _ (by omega), getD_set _ _ _ _ (by omega), getD_set _ _ _ _ (by omega), getD_set _ _ _ _ (by omega), if_neg (by omega), if_neg (by omega), if_neg (by omega), if_neg (by omega)]
      exact hsrc
    have e2 : pkDst (H.set i x ++ d) = dst := by
      rw [dst_of _ d hlen, getD_set _ _ _ _ (by omega), getD_set _ _ _ _ (by omega), getD_set _ _ _ _ (by omega), getD_set _ _ _ _ (by omega), if_neg (by omega), if_neg (by omega), if_neg (by omega), if_neg (by omega)]
      exact hdst
    rw [e1, e2, ← hH] at hh
    have : H.getD i 0 = (H.set i x).getD i 0 := by rw [← hh]
    rw [getD_set _ _ _ _ (by omega), if_pos rfl] at this
    exact hxne this.symm
  · have e0 := head0_of n (H.set i x) d hlen
    rw [tail8_set H i x hl (by omega) hi, hH, tail8_head, ← hH] at e0
    have e1 : pk12 n ++ (be4 src ++ be4 dst).set (i - 12) x = (pkHead0 n src dst).set i x := by
      unfold pkHead0
      rw [List.append_assoc]
      generalize be4 src ++ be4 dst = T
      rw [List.set_append_right _ _ (by rw [pk12_length]; omega), pk12_length]
    rw [e1] at e0
    have hx0 : H.getD i 0 = (pkHead0 n src dst).getD i 0 := by
      rw [hH]
      unfold pkHead pkHead0 pk12
      rw [List.append_assoc, List.append_assoc]
      generalize be4 src ++ be4 dst = T
      simp only [List.getD_eq_getElem?_getD]
      rw [List.getElem?_append_right (by simp; omega), List.getElem?_append_right (by simp; omega)]
      rfl
    rw [hx, hx0] at e0
    have g10 : ∀ s t, (pkHead n s t).getD 10 0 = UInt8.ofNat (pkSum n s t / 2 ^ 8) := fun s t => rfl
    have g11 : ∀ s t, (pkHead n s t).getD 11 0 = UInt8.ofNat (pkSum n s t) := fun s t => rfl
    have k10 : (pkHead n (pkSrc (H.set i x ++ d)) (pkDst (H.set i x ++ d))).getD 10 0 = (H.set i x).getD 10 0 := by rw [hh]
    have k11 : (pkHead n (pkSrc (H.set i x ++ d)) (pkDst (H.set i x ++ d))).getD 11 0 = (H.set i x).getD 11 0 := by rw [hh]
    rw [getD_set _ _ _ _ (by omega), if_neg (by omega), g10, hH, g10, ← hH] at k10
    rw [getD_set _ _ _ _ (by omega), if_neg (by omega), g11, hH, g11, ← hH] at k11
    have h := ofNat_pair (inet_lt _) (inet_lt _) k10 k11
    unfold pkSum at h
    rw [hx, hx0, e0] at h
    exact inet_set _ i y (by rw [pkHead0_length]) (by rw [pkHead0_length]; exact hi) h
theorem Bytes.cut {w : World} {a : Option Addr} {n c m : Nat} {l : List UInt8} (h : Bytes w (.slice a n c) l) (hm : m ≤ n) : Bytes w (.slice a m c) (l.take m) := by
  obtain ⟨a', c', e, h2, h3, h4, h5⟩ := h
  injection e with e1 e2 e3
  subst e1 e2 e3
  have e : (l.take m).length = m := by rw [List.length_take]; omega
  refine ⟨a, c, by rw [e], by omega, h3, h4, fun hp => ?_⟩
  obtain ⟨b, off, ha, hlt, hc⟩ := h5 (by omega)
  exact ⟨b, off, ha, hlt, fun i u hu => hc i u (by have hi := (List.getElem?_eq_some_iff.1 hu).1; rw [List.getElem?_take_of_lt (by omega)] at hu; exact hu)⟩
end Go.Proofs.Ytnopdnclefopbaa
