/- Hexadecimal digits: what the functions of package hex compute, in plain words. It names no function of the program. -/
import Derived.Lib.Bytealg
namespace Go.Proofs.YtcebndkiagbddaaDoor
set_option linter.unusedVariables false
set_option linter.unusedSimpArgs false

def digs : List UInt8 := [48, 49, 50, 51, 52, 53, 54, 55, 56, 57, 97, 98, 99, 100, 101, 102]
def hexd (n : Nat) : UInt8 := digs.getD n 0
def hexText (l : List UInt8) : List UInt8 := l.flatMap fun b => [hexd (b.toNat / 16), hexd (b.toNat % 16)]
theorem hexText_snoc (l : List UInt8) (b : UInt8) : hexText (l ++ [b]) = hexText l ++ [hexd (b.toNat / 16)] ++ [hexd (b.toNat % 16)] := by simp [hexText]
theorem hexText_length (l : List UInt8) : (hexText l).length = 2 * l.length := by
  induction l with
  | nil => rfl
  | cons b l ih => simp [hexText] at *; omega

/-- The value of a digit; below 0: it is none. -/
def hexv (c : UInt8) : Int := Lib.indexByte digs c
def unhex : List UInt8 → Option (List UInt8)
  | c :: d :: r => if hexv c < 0 ∨ hexv d < 0 then none else (unhex r).map (UInt8.ofNat (16 * hexv c + hexv d).toNat :: ·)
  | [] => some []
  | [_] => none
theorem hexv_bd (c : UInt8) : -1 ≤ hexv c ∧ hexv c < 16 := by
  have h : ∀ (l : List UInt8), -1 ≤ Lib.indexByte l c ∧ Lib.indexByte l c < l.length ∨ Lib.indexByte l c = -1 := by
    intro l
    induction l with
    | nil => exact .inr rfl
    | cons b l ih =>
      unfold Lib.indexByte
      by_cases h1 : (b == c) = true
      · rw [if_pos h1]; left; simp only [List.length_cons, Int.natCast_add]; omega
      · rw [if_neg h1]
        by_cases h2 : (Lib.indexByte l c == -1) = true
        · rw [if_pos h2]; exact .inr rfl
        · rw [if_neg h2]
          have h3 : Lib.indexByte l c ≠ -1 := by simpa using h2
          left; simp only [List.length_cons, Int.natCast_add]; omega
  have := h digs
  have e : digs.length = 16 := rfl
  unfold hexv; omega
theorem unhex_snoc : ∀ (l bs : List UInt8) (c d : UInt8), unhex l = some bs → unhex (l ++ [c, d]) = if hexv c < 0 ∨ hexv d < 0 then none else some (bs ++ [UInt8.ofNat (16 * hexv c + hexv d).toNat])
  | [], bs, c, d, h => by
    simp [unhex] at h; subst h
    simp only [List.nil_append, unhex, Option.map_some]
  | [a], bs, c, d, h => by simp [unhex] at h
  | a :: b :: l, bs, c, d, h => by
    unfold unhex at h
    by_cases hc : hexv a < 0 ∨ hexv b < 0
    · rw [if_pos hc] at h; cases h
    · rw [if_neg hc] at h
      cases hu : unhex l with
      | none => rw [hu] at h; cases h
      | some x =>
        rw [hu] at h; simp at h; subst h
        show unhex (a :: b :: (l ++ [c, d])) = _
        unfold unhex
        rw [if_neg hc, unhex_snoc l x c d hu]
        split <;> simp
theorem unhex_none : ∀ (l m : List UInt8), unhex l = none → l.length % 2 = 0 → unhex (l ++ m) = none
  | [], m, h, _ => by simp [unhex] at h
  | [a], m, _, h => by simp at h
  | a :: b :: l, m, h, h2 => by
    show unhex (a :: b :: (l ++ m)) = none
    unfold unhex at h ⊢
    by_cases hc : hexv a < 0 ∨ hexv b < 0
    · rw [if_pos hc]
    · rw [if_neg hc] at h ⊢
      have : unhex l = none := by simpa using h
      rw [unhex_none l m this (by simp at h2; omega)]; rfl
theorem unhex_len : ∀ (l bs : List UInt8), unhex l = some bs → l.length = 2 * bs.length
  | [], bs, h => by simp [unhex] at h; subst h; rfl
  | [a], bs, h => by simp [unhex] at h
  | a :: b :: l, bs, h => by
    unfold unhex at h
    by_cases hc : hexv a < 0 ∨ hexv b < 0
    · rw [if_pos hc] at h; cases h
    · rw [if_neg hc] at h
      cases hu : unhex l with
      | none => rw [hu] at h; cases h
      | some x => rw [hu] at h; simp at h; subst h; have := unhex_len l x hu; simp; omega

theorem hexv_hexd (n : Nat) (h : n < 16) : hexv (hexd n) = n := by
  have : ∀ m : Fin 16, hexv (hexd m.val) = (m.val : Int) := by decide
  exact this ⟨n, h⟩
theorem unhex_hexText : ∀ l : List UInt8, unhex (hexText l) = some l
  | [] => rfl
  | b :: l => by
    have h1 : b.toNat / 16 < 16 := by have := b.toNat_lt; omega
    have h2 : b.toNat % 16 < 16 := by omega
    show unhex (hexd (b.toNat / 16) :: hexd (b.toNat % 16) :: hexText l) = _
    unfold unhex
    rw [hexv_hexd _ h1, hexv_hexd _ h2, if_neg (by omega), unhex_hexText l, Option.map_some]
    congr 1
    rw [show (16 * ((b.toNat / 16 : Nat) : Int) + ((b.toNat % 16 : Nat) : Int)).toNat = b.toNat from by omega, UInt8.ofNat_toNat]
theorem index_at : ∀ (l : List UInt8) (c : UInt8), ¬ Lib.indexByte l c < 0 → l.getD (Lib.indexByte l c).toNat 0 = c
  | [], c, h => absurd (show (-1 : Int) < 0 by decide) h
  | b :: l, c, h => by
    unfold Lib.indexByte at h ⊢
    by_cases h1 : (b == c) = true
    · rw [if_pos h1]; simpa using h1
    · rw [if_neg h1] at h ⊢
      by_cases h2 : (Lib.indexByte l c == -1) = true
      · rw [if_pos h2] at h; exact absurd (by decide) h
      · rw [if_neg h2] at h ⊢
        have h3 : Lib.indexByte l c ≠ -1 := by simpa using h2
        by_cases h4 : Lib.indexByte l c < 0
        · exfalso
          have : ∀ (l : List UInt8), Lib.indexByte l c < 0 → Lib.indexByte l c = -1 := by
            intro l
            induction l with
            | nil => intro _; rfl
            | cons b l ih =>
              unfold Lib.indexByte
              by_cases h1 : (b == c) = true
              · rw [if_pos h1]; intro h; omega
              · rw [if_neg h1]
                by_cases h2 : (Lib.indexByte l c == -1) = true
                · rw [if_pos h2]; intro _; rfl
                · rw [if_neg h2]; intro h
                  have h3 : Lib.indexByte l c ≠ -1 := by simpa using h2
                  by_cases h5 : Lib.indexByte l c < 0
                  · exact absurd (ih h5) h3
                  · omega
          exact h3 (this l h4)
        · have := index_at l c h4
          rw [show (Lib.indexByte l c + 1).toNat = (Lib.indexByte l c).toNat + 1 from by omega]
          simpa using this
theorem hexd_hexv (c : UInt8) (h : ¬ hexv c < 0) : hexd (hexv c).toNat = c := index_at digs c h
theorem hexText_unhex : ∀ (l bs : List UInt8), unhex l = some bs → hexText bs = l
  | [], bs, h => by simp [unhex] at h; subst h; rfl
  | [a], bs, h => by simp [unhex] at h
  | a :: b :: l, bs, h => by
    unfold unhex at h
    by_cases hc : hexv a < 0 ∨ hexv b < 0
    · rw [if_pos hc] at h; cases h
    · rw [if_neg hc] at h
      cases hu : unhex l with
      | none => rw [hu] at h; cases h
      | some x =>
        rw [hu] at h; simp at h; subst h
        have ha := hexv_bd a
        have hb := hexv_bd b
        have e : (UInt8.ofNat (16 * hexv a + hexv b).toNat).toNat = (16 * hexv a + hexv b).toNat := by rw [UInt8.toNat_ofNat']; omega
        show hexd ((UInt8.ofNat (16 * hexv a + hexv b).toNat).toNat / 16) :: hexd ((UInt8.ofNat (16 * hexv a + hexv b).toNat).toNat % 16) :: hexText x = _
        rw [e, hexText_unhex l x hu, show (16 * hexv a + hexv b).toNat / 16 = (hexv a).toNat from by omega, show (16 * hexv a + hexv b).toNat % 16 = (hexv b).toNat from by omega, hexd_hexv a (fun h => hc (.inl h)), hexd_hexv b (fun h => hc (.inr h))]

/-- What Bytes and Check tell. -/
def hexE (l : List UInt8) : Int := if 2000 < (l.length : Int) then 1 else if ¬ (l.length : Int) % 2 = 0 then 3 else if unhex l = none then 3 else 0
def hexB (l : List UInt8) : List UInt8 := if 2000 < (l.length : Int) then [] else if ¬ (l.length : Int) % 2 = 0 then [] else (unhex l).getD []
def hexC (l : List UInt8) : Int := if ¬ (l.length : Int) = 64 then 1 else hexE l
theorem hex_done {l bs : List UInt8} (h1 : ¬ 2000 < (l.length : Int)) (h2 : (l.length : Int) % 2 = 0) (h : unhex l = some bs) : hexE l = 0 ∧ hexB l = bs := by
  unfold hexE hexB
  rw [if_neg h1, if_neg (by omega), if_neg (by rw [h]; simp), if_neg h1, if_neg (by omega), h]
  exact ⟨rfl, rfl⟩
theorem hex_bad {l : List UInt8} (h1 : ¬ 2000 < (l.length : Int)) (h2 : (l.length : Int) % 2 = 0) (h : unhex l = none) : hexE l = 3 ∧ hexB l = [] := by
  unfold hexE hexB
  rw [if_neg h1, if_neg (by omega), if_pos h, if_neg h1, if_neg (by omega), h]
  exact ⟨rfl, rfl⟩
theorem unhex_at {l bs : List UInt8} {j : Nat} (h : unhex (l.take j) = some bs) (h2 : j + 1 < l.length) : unhex (l.take (j + 2)) = if hexv (l.getD j 0) < 0 ∨ hexv (l.getD (j + 1) 0) < 0 then none else some (bs ++ [UInt8.ofNat (16 * hexv (l.getD j 0) + hexv (l.getD (j + 1) 0)).toNat]) := by
  have e : l.take (j + 2) = l.take j ++ [l.getD j 0, l.getD (j + 1) 0] := by
    have hj : j < l.length := by omega
    have d1 : l.getD j 0 = l[j] := by rw [List.getD_eq_getElem?_getD, List.getElem?_eq_getElem hj]; rfl
    have d2 : l.getD (j + 1) 0 = l[j + 1] := by rw [List.getD_eq_getElem?_getD, List.getElem?_eq_getElem h2]; rfl
    rw [d1, d2, show j + 2 = j + 1 + 1 from rfl, List.take_succ_eq_append_getElem h2, List.take_succ_eq_append_getElem hj, List.append_assoc]; rfl
  rw [e]; exact unhex_snoc _ _ _ _ h
theorem unhex_stop {l : List UInt8} {j : Nat} (h : unhex (l.take j) = none) (hj : j % 2 = 0) (h2 : j ≤ l.length) : unhex l = none := by
  have e := unhex_none (l.take j) (l.drop j) h (by rw [List.length_take]; omega)
  rwa [List.take_append_drop] at e
/-- A key is 64 digits. -/
theorem key_len {k : List UInt8} (h : hexC k = 0) : k.length = 64 := by
  unfold hexC at h
  split at h
  · cases h
  · omega
theorem key_bytes {k : List UInt8} (h : hexC k = 0) : hexE k = 0 ∧ unhex k = some (hexB k) ∧ (hexB k).length = 32 := by
  have hl := key_len h
  unfold hexC at h
  rw [if_neg (by omega)] at h
  refine ⟨h, ?_⟩
  have h' := h
  unfold hexE at h'
  rw [if_neg (by omega), if_neg (by omega)] at h'
  cases hu : unhex k with
  | none => rw [hu] at h'; simp at h'
  | some bs =>
    have e : hexB k = bs := (hex_done (by omega) (by omega) hu).2
    rw [e]
    exact ⟨rfl, by have := unhex_len k bs hu; omega⟩
theorem hexText_key (l : List UInt8) (h : l.length = 32) : hexC (hexText l) = 0 := by
  have h1 := hexText_length l
  have h2 := (hex_done (l := hexText l) (by omega) (by omega) (unhex_hexText l)).1
  unfold hexC; rw [if_neg (by omega), h2]
theorem hexB_text (l : List UInt8) (h : l.length ≤ 1000) : hexB (hexText l) = l ∧ hexE (hexText l) = 0 := by
  have h1 := hexText_length l
  have h2 := hex_done (l := hexText l) (by omega) (by omega) (unhex_hexText l)
  exact ⟨h2.2, h2.1⟩
end Go.Proofs.YtcebndkiagbddaaDoor
