/- Hexadecimal digits: what the functions of package hex compute, in plain words. It names no function of the program. -/
import Derived.Lib.Bytealg
namespace Go.Proofs.YtfpglljpngiipaaDoor
set_option linter.unusedVariables false
set_option linter.unusedSimpArgs false

def digs : List UInt8 := [48, 49, 50, 51, 52, 53, 54, 55, 56, 57, 97, 98, 99, 100, 101, 102]
/-- The value of a digit; below 0: it is none. -/
def hexv (c : UInt8) : Int := Lib.indexByte digs c
def unhex : List UInt8 → Option (List UInt8)
  | c :: d :: r => if hexv c < 0 ∨ hexv d < 0 then none else (unhex r).map (UInt8.ofNat (16 * hexv c + hexv d).toNat :: ·)
  | [] => some []
  | [_] => none
theorem hexv_bd (c : UInt8) : -1 ≤ hexv c ∧ hexv c < 16 := by
  have h : ∀ (l : List UInt8), -1 ≤ Lib.indexByte l c ∧ Lib.indexByte l c < l.length ∨ Lib.indexByte l c = -1 := by
    intro l
    induction l with
    | nil => exact .inr rfl
    | cons b l ih =>
      unfold Lib.indexByte
      by_cases h1 : (b == c) = true
      · rw [if_pos h1]; left; simp only [List.length_cons, Int.natCast_add]; omega
      · rw [if_neg h1]
        by_cases h2 : (Lib.indexByte l c == -1) = true
        · rw [if_pos h2]; exact .inr rfl
        · rw [if_neg h2]
          have h3 : Lib.indexByte l c ≠ -1 := by simpa using h2
          left; simp only [List.length_cons, Int.natCast_add]; omega
  have := h digs
  have e : digs.length = 16 := rfl
  unfold hexv; omega
theorem unhex_snoc : ∀ (l bs : List UInt8) (c d : UInt8), unhex l = some bs → unhex (l ++ [c, d]) = if hexv c < 0 ∨ hexv d < 0 then none else some (bs ++ [UInt8.ofNat (16 * hexv c + hexv d).toNat])
  | [], bs, c, d, h => by
    simp [unhex] at h; subst h
    simp only [List.nil_append, unhex, Option.map_some]
  | [a], bs, c, d, h => by simp [unhex] at h
  | a :: b :: l, bs, c, d, h => by
    unfold unhex at h
    by_cases hc : hexv a < 0 ∨ hexv b < 0
    · rw [if_pos hc] at h; cases h
    · rw [if_neg hc] at h
      cases hu : unhex l with
      | none => rw [hu] at h; cases h
      | some x =>
        rw [hu] at h; simp at h; subst h
        show unhex (a :: b :: (l ++ [c, d])) = _
        unfold unhex
        rw [if_neg hc, unhex_snoc l x c d hu]
        split <;> simp
theorem unhex_none : ∀ (l m : List UInt8), unhex l = none → l.length % 2 = 0 → unhex (l ++ m) = none
  | [], m, h, _ => by simp [unhex] at h
  | [a], m, _, h => by simp at h
  | a :: b :: l, m, h, h2 => by
    show unhex (a :: b :: (l ++ m)) = none
    unfold unhex at h ⊢
    by_cases hc : hexv a < 0 ∨ hexv b < 0
    · rw [if_pos hc]
    · rw [if_neg hc] at h ⊢
      have : unhex l = none := by simpa using h
      rw [unhex_none l m this (by simp at h2; omega)]; rfl
/-- What Bytes and Check tell. -/
def hexE (l : List UInt8) : Int := if 2000 < (l.length : Int) then 1 else if ¬ (l.length : Int) % 2 = 0 then 3 else if unhex l = none then 3 else 0
def hexB (l : List UInt8) : List UInt8 := if 2000 < (l.length : Int) then [] else if ¬ (l.length : Int) % 2 = 0 then [] else (unhex l).getD []
def hexC (l : List UInt8) : Int := if ¬ (l.length : Int) = 64 then 1 else hexE l
theorem hex_done {l bs : List UInt8} (h1 : ¬ 2000 < (l.length : Int)) (h2 : (l.length : Int) % 2 = 0) (h : unhex l = some bs) : hexE l = 0 ∧ hexB l = bs := by
  unfold hexE hexB
  rw [if_neg h1, if_neg (by omega), if_neg (by rw [h]; simp), if_neg h1, if_neg (by omega), h]
  exact ⟨rfl, rfl⟩
theorem hex_bad {l : List UInt8} (h1 : ¬ 2000 < (l.length : Int)) (h2 : (l.length : Int) % 2 = 0) (h : unhex l = none) : hexE l = 3 ∧ hexB l = [] := by
  unfold hexE hexB
  rw [if_neg h1, if_neg (by omega), if_pos h, if_neg h1, if_neg (by omega), h]
  exact ⟨rfl, rfl⟩
theorem unhex_at {l bs : List UInt8} {j : Nat} (h : unhex (l.take j) = some bs) (h2 : j + 1 < l.length) : unhex (l.take (j + 2)) = if hexv (l.getD j 0) < 0 ∨ hexv (l.getD (j + 1) 0) < 0 then none else some (bs ++ [UInt8.ofNat (16 * hexv (l.getD j 0) + hexv (l.getD (j + 1) 0)).toNat]) := by
  have e : l.take (j + 2) = l.take j ++ [l.getD j 0, l.getD (j + 1) 0] := by
    have hj : j < l.length := by omega
    have d1 : l.getD j 0 = l[j] := by rw [List.getD_eq_getElem?_getD, List.getElem?_eq_getElem hj]; rfl
    have d2 : l.getD (j + 1) 0 = l[j + 1] := by rw [List.getD_eq_getElem?_getD, List.getElem?_eq_getElem h2]; rfl
    rw [d1, d2, show j + 2 = j + 1 + 1 from rfl, List.take_succ_eq_append_getElem h2, List.take_succ_eq_append_getElem hj, List.append_assoc]; rfl
  rw [e]; exact unhex_snoc _ _ _ _ h
theorem unhex_stop {l : List UInt8} {j : Nat} (h : unhex (l.take j) = none) (hj : j % 2 = 0) (h2 : j ≤ l.length) : unhex l = none := by
  have e := unhex_none (l.take j) (l.drop j) h (by rw [List.length_take]; omega)
  rwa [List.take_append_drop] at e
end Go.Proofs.YtfpglljpngiipaaDoor
