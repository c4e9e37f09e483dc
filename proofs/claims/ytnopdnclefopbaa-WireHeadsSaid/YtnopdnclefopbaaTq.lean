/- What is computed of new blocks, appends and conversions is so. It names no function of the program. -/
import Derived.Test.YtnopdnclefopbaaTn
namespace Go.Proofs.Ytnopdnclefopbaa
open Go.RowKit
set_option linter.unusedVariables false
set_option linter.unusedSimpArgs false

theorem lzC_sub {m sz k i : Nat} {f : Nat → Nat → EV} (h : i + k ≤ m) : ((lzC m sz f).drop (i * sz)).take (k * sz) = lzC k sz (fun a b => f (i + a) b) := by
  apply List.ext_getElem?
  intro q
  rw [List.getElem?_take]
  by_cases hq : q < k * sz
  · rw [if_pos hq, List.getElem?_drop]
    have hs : 0 < sz := by
      rcases Nat.eq_zero_or_pos sz with e | e
      · subst e; omega
      · exact e
    have h1 : q / sz < k := Nat.div_lt_of_lt_mul (by rw [Nat.mul_comm]; exact hq)
    have h2 := Nat.mod_lt q hs
    have h3 := Nat.div_add_mod q sz
    have e1 : i * sz + q = (i + q / sz) * sz + q % sz := by rw [Nat.add_mul, Nat.mul_comm (q / sz) sz]; omega
    have e2 := lz_get k sz (fun a b => f (i + a) b) (i := q / sz) (j := q % sz) h1 h2
    rw [Nat.mul_comm (q / sz) sz, h3] at e2
    rw [e1, lz_get m sz f (by omega) h2, e2]
  · rw [if_neg hq, List.getElem?_eq_none (by rw [lz_len]; omega)]
theorem lzC_ext {m sz : Nat} {f g : Nat → Nat → EV} (h : ∀ i, i < m → ∀ j, j < sz → f i j = g i j) : lzC m sz f = lzC m sz g := by
  unfold lzC
  have : ∀ l : List Nat, (∀ i ∈ l, i < m) → (l.flatMap fun i => (List.range sz).map fun j => (f i j).pv) = l.flatMap fun i => (List.range sz).map fun j => (g i j).pv := by
    intro l
    induction l with
    | nil => intro _; rfl
    | cons a l ih =>
      intro hl
      rw [List.flatMap_cons, List.flatMap_cons, ih (fun i hi => hl i (List.mem_cons_of_mem _ hi))]
      congr 1
      exact List.map_congr_left fun j hj => by rw [h a (hl a (by simp)) j (List.mem_range.1 hj)]
  exact this _ fun i hi => List.mem_range.1 hi
theorem lzC_add (n k sz : Nat) (f : Nat → Nat → EV) : lzC (n + k) sz f = lzC n sz f ++ lzC k sz (fun a b => f (n + a) b) := by
  have h1 := lzC_sub (m := n + k) (sz := sz) (k := n) (i := 0) (f := f) (by omega)
  have h2 := lzC_sub (m := n + k) (sz := sz) (k := k) (i := n) (f := f) (by omega)
  have e : (fun a b => f (0 + a) b) = f := by funext a b; rw [Nat.zero_add]
  rw [e] at h1
  rw [← h1, ← h2, Nat.zero_mul, List.drop_zero]
  have hl : (lzC (n + k) sz f).length = (n + k) * sz := lz_len _ _ _
  rw [List.take_of_length_le (l := (lzC (n + k) sz f).drop (n * sz)) (by rw [List.length_drop, hl, Nat.add_mul]; omega), List.take_append_drop]
theorem lzC_of (k sz : Nat) (m : List EV) (h : m.length = k * sz) : lzC k sz (fun a b => m.getD (a * sz + b) .any) = pvL m := by
  apply List.ext_getElem?
  intro q
  by_cases hq : q < k * sz
  · have hs : 0 < sz := by
      rcases Nat.eq_zero_or_pos sz with e | e
      · subst e; omega
      · exact e
    have h1 : q / sz < k := Nat.div_lt_of_lt_mul (by rw [Nat.mul_comm]; exact hq)
    have h2 := Nat.mod_lt q hs
    have h3 := Nat.div_add_mod q sz
    have e2 := lz_get k sz (fun a b => m.getD (a * sz + b) .any) (i := q / sz) (j := q % sz) h1 h2
    rw [Nat.mul_comm (q / sz) sz, h3] at e2
    rw [e2, pvL_get, List.getD_eq_getElem?_getD, List.getElem?_eq_getElem (by omega)]; rfl
  · rw [List.getElem?_eq_none (by rw [lz_len]; omega), List.getElem?_eq_none (by rw [pvL_length]; omega)]
theorem av_cs (x : EV) (h : onesE (csE x) = true) : x.av.cs = avL (csE x) := by
  cases x with
  | agg l => rfl
  | tup l => simp [csE, onesE, oneE] at h
  | raw x => simp [csE, onesE, oneE] at h
  | cnd g x => simp [csE, onesE, oneE] at h
  | any => simp [csE, onesE, oneE] at h
  | az n f => simp [csE, onesE, oneE] at h
  | _ => rfl
theorem boxV_vs : ∀ z : List Value, boxV z = avL (vsE z)
  | [] => rfl
  | x :: z => by
    have := boxV_vs z
    simp only [boxV, List.map_cons] at this ⊢
    simp only [vsE, avL, EV.av, this]
theorem putL_mid {α : Type} (xs l : List α) (o : Nat) (h : o + xs.length ≤ l.length) : putL l o xs = l.take o ++ xs ++ l.drop (o + xs.length) := by
  induction xs generalizing l o with
  | nil => simp [putL]
  | cons x xs ih =>
    show putL (l.set o x) (o + 1) xs = _
    simp only [List.length_cons] at h
    rw [ih (l.set o x) (o + 1) (by simp; omega)]
    have e1 : (l.set o x).take (o + 1) = l.take o ++ [x] := by
      apply List.ext_getElem?
      intro i
      rw [List.getElem?_take, List.getElem?_set]
      by_cases h1 : i < o
      · rw [if_pos (by omega), if_neg (by omega), List.getElem?_append_left (by simp; omega), List.getElem?_take, if_pos h1]
      · by_cases h2 : i = o
        · subst h2; rw [if_pos (by omega), if_pos rfl, if_pos (by omega), List.getElem?_append_right (by simp; omega)]
          simp [show i - min i l.length = 0 from by omega]
        · rw [if_neg (by omega), List.getElem?_eq_none (by simp; omega)]
    rw [e1, List.drop_set_of_lt (by omega)]
    simp only [List.append_assoc, List.cons_append, List.nil_append, List.length_cons]
    rw [show o + 1 + xs.length = o + (xs.length + 1) from by omega]
theorem fillE_ok (pl : List (Nat × Nat × Bool)) : ∀ {cells : List EV} {parts : List (Nat × EV)} {out : List EV}, fillE pl cells parts = some out →
    fillA (pl.map fun p => (p.1, p.2.1)) (avL cells) (parts.map fun p => (p.1, p.2.av)) = some (avL out) ∧ ∀ p ∈ parts, p.2 ≠ .any
  | cells, [], out, h => by unfold fillE at h; cases h; exact ⟨rfl, by simp⟩
  | cells, (i, x) :: rest, out, h => by
    unfold fillE at h
    cases hi : pl[i]? with
    | none => rw [hi] at h; cases h
    | some q =>
      obtain ⟨o, s, g⟩ := q
      rw [hi] at h
      simp only at h
      cases hc : Nat.beq (csE x).length s && onesE (csE x) && Nat.ble (o + s) cells.length with
      | false => rw [hc] at h; cases h
      | true =>
        rw [hc] at h
        simp only [cond_true] at h
        simp only [Bool.and_eq_true, Nat.ble_eq] at hc
        obtain ⟨hc, hle⟩ := hc
        have hlen := nat_eq hc.1
        split at h
        · next c hq =>
          obtain ⟨h1, h2⟩ := ptE_eq hq
          obtain ⟨k1, k2⟩ := fillE_ok pl h
          have hcs := av_cs x hc.2
          have hne : x ≠ .any := fun e => by subst e; simp [csE, onesE, oneE] at hc
          refine ⟨?_, fun p hp => ?_⟩
          · simp only [List.map_cons, fillA, List.getElem?_map, hi, Option.map_some]
            rw [hcs]
            rw [if_pos ⟨by rw [avL_length]; exact hlen, by rw [avL_length]; exact hle, ones_av _ hc.2⟩]
            rw [← avL_put, ← h1]; exact k1
          · rcases List.mem_cons.1 hp with rfl | hp
            · exact hne
            · exact k2 p hp
        · cases h
end Go.Proofs.Ytnopdnclefopbaa
