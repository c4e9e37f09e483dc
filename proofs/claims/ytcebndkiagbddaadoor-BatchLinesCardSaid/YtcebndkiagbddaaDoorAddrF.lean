/- Decimal numbers and the texts of addresses, plainly. It names no function of the program. -/
import Derived.Lib.ItoaNum
import Derived.Test.YtcebndkiagbddaaDoorLineF
namespace Go.Proofs.YtcebndkiagbddaaDoor
open Go.Lib
set_option linter.unusedVariables false
set_option linter.unusedSimpArgs false

def isD (c : UInt8) : Bool := decide (48 ≤ c.toNat) && decide (c.toNat ≤ 57)
def decV (n : Nat) (l : List UInt8) : Nat := l.foldl (fun n c => 10 * n + (c.toNat - 48)) n
theorem decV_nil (n : Nat) : decV n [] = n := List.foldl_nil
theorem decV_cons (n : Nat) (c : UInt8) (l : List UInt8) : decV n (c :: l) = decV (10 * n + (c.toNat - 48)) l := List.foldl_cons ..
/-- A small number as a text, without a needless 0. -/
def numOk (s : List UInt8) : Prop := 1 ≤ s.length ∧ s.length ≤ 5 ∧ (1 < s.length → s.getD 0 0 ≠ 48) ∧ s.all isD = true
instance (s : List UInt8) : Decidable (numOk s) := by unfold numOk; infer_instance
theorem decV_app (n : Nat) (a b : List UInt8) : decV n (a ++ b) = decV (decV n a) b := List.foldl_append
theorem digit_toNat {k : Nat} (h : k < 10) : (UInt8.ofNat (48 + k)).toNat = 48 + k := by
  show (48 + k) % 2 ^ 8 = _
  exact Nat.mod_eq_of_lt (by omega)
theorem isD_digit {k : Nat} (h : k < 10) : isD (UInt8.ofNat (48 + k)) = true := by
  unfold isD; rw [digit_toNat h, decide_eq_true (by omega), decide_eq_true (by omega)]; rfl
theorem dec_all (u : Nat) : (decDigits u).all isD = true := by
  induction u using Nat.strongRecOn with
  | _ u ih =>
    by_cases h : u < 10
    · rw [decDigits_one h, List.all_cons, isD_digit h]; rfl
    · rw [decDigits, dif_neg h, List.all_append, ih (u / 10) (by omega), List.all_cons, isD_digit (Nat.mod_lt u (by decide : 0 < 10))]; rfl
theorem dec_val (u : Nat) : decV 0 (decDigits u) = u := by
  induction u using Nat.strongRecOn with
  | _ u ih =>
    by_cases h : u < 10
    · rw [decDigits_one h, decV_cons, decV_nil, digit_toNat h]; omega
    · rw [decDigits, dif_neg h, decV_app, ih (u / 10) (by omega), decV_cons, decV_nil, digit_toNat (Nat.mod_lt u (by decide))]; omega
theorem dec_ne (u : Nat) : decDigits u ≠ [] := by
  rw [decDigits]; split
  · simp
  · simp
theorem dec_head : ∀ {u : Nat}, 10 ≤ u → (decDigits u).getD 0 0 ≠ 48 := by
  intro u
  induction u using Nat.strongRecOn with
  | _ u ih =>
    intro hu
    rw [decDigits, dif_neg (by omega)]
    by_cases h : u / 10 < 10
    · rw [decDigits_one h]
      show UInt8.ofNat (48 + u / 10) ≠ 48
      intro e
      have := congrArg UInt8.toNat e
      rw [digit_toNat h] at this
      have h48 : (48 : UInt8).toNat = 48 := rfl
      omega
    · have := ih (u / 10) (by omega) (by omega)
      obtain ⟨a, l, e⟩ : ∃ a l, decDigits (u / 10) = a :: l := by
        cases q : decDigits (u / 10) with
        | nil => exact absurd q (dec_ne _)
        | cons a l => exact ⟨a, l, rfl⟩
      rw [e] at this ⊢
      exact this
theorem dec_len {u : Nat} (h : u < 100000) : (decDigits u).length ≤ 5 := by
  rw [decDigits_length]
  by_cases h1 : u < 10
  · rw [nDigits_small h1]; decide
  by_cases h2 : u < 100
  · rw [nDigits_unique 1 u (by omega) (by omega)]; decide
  by_cases h3 : u < 1000
  · rw [nDigits_unique 2 u (by omega) (by omega)]; decide
  by_cases h4 : u < 10000
  · rw [nDigits_unique 3 u (by omega) (by omega)]; decide
  · rw [nDigits_unique 4 u (by omega) (by omega)]; decide
theorem dec_ok {u : Nat} (h : u < 100000) : numOk (decDigits u) := by
  refine ⟨?_, dec_len h, fun h1 => ?_, dec_all u⟩
  · cases q : decDigits u with
    | nil => exact absurd q (dec_ne _)
    | cons a l => simp
  · rcases Nat.lt_or_ge u 10 with k | k
    · rw [decDigits_one k] at h1; simp at h1
    · exact dec_head k
theorem isD_val {c : UInt8} (h : isD c = true) : UInt8.ofNat (48 + (c.toNat - 48)) = c ∧ c.toNat - 48 < 10 := by
  unfold isD at h
  rw [Bool.and_eq_true, decide_eq_true_eq, decide_eq_true_eq] at h
  refine ⟨?_, by omega⟩
  rw [show 48 + (c.toNat - 48) = c.toNat from by omega]
  exact UInt8.ofNat_toNat
theorem dec_snoc {m d : Nat} (hm : m ≠ 0) (hd : d < 10) : decDigits (10 * m + d) = decDigits m ++ [UInt8.ofNat (48 + d)] := by
  rw [decDigits, dif_neg (by omega), show (10 * m + d) / 10 = m from by omega, show (10 * m + d) % 10 = d from by omega]
/-- The digits of a number that has no needless 0 are the number's. -/
theorem dec_of (l : List UInt8) : ∀ (m : Nat), m ≠ 0 → l.all isD = true → decDigits (decV m l) = decDigits m ++ l := by
  induction l with
  | nil => intro m _ _; rw [List.append_nil, decV_nil]
  | cons c l ih =>
    intro m hm h
    rw [List.all_cons, Bool.and_eq_true] at h
    obtain ⟨e, k⟩ := isD_val h.1
    rw [decV_cons, ih _ (by omega) h.2, dec_snoc hm k, e, List.append_assoc]; rfl
theorem dec_back {s : List UInt8} (h : numOk s) : decDigits (decV 0 s) = s := by
  obtain ⟨h1, h2, h3, h4⟩ := h
  cases s with
  | nil => simp at h1
  | cons c l =>
    rw [List.all_cons, Bool.and_eq_true] at h4
    obtain ⟨e, k⟩ := isD_val h4.1
    rw [decV_cons]
    cases l with
    | nil =>
      rw [decV_nil, show 10 * 0 + (c.toNat - 48) = c.toNat - 48 from by omega, decDigits_one k, e]
    | cons d l =>
      have hc : c.toNat - 48 ≠ 0 := fun q => by
        refine h3 (by simp) ?_
        show c = 48
        rw [q] at e
        rw [← e]; rfl
      rw [dec_of _ _ (by omega) h4.2, show 10 * 0 + (c.toNat - 48) = c.toNat - 48 from by omega, decDigits_one k, e]; rfl
theorem decV_lt (l : List UInt8) : ∀ (n : Nat), l.all isD = true → decV n l < (n + 1) * 10 ^ l.length := by
  induction l with
  | nil => intro n _; rw [decV_nil, List.length_nil, Nat.pow_zero]; omega
  | cons c l ih =>
    intro n h
    rw [List.all_cons, Bool.and_eq_true] at h
    have k := (isD_val h.1).2
    have := ih (10 * n + (c.toNat - 48)) h.2
    rw [decV_cons, List.length_cons, Nat.pow_succ]
    have h2 : (10 * n + (c.toNat - 48) + 1) * 10 ^ l.length ≤ ((n + 1) * 10) * 10 ^ l.length := Nat.mul_le_mul_right _ (by omega)
    calc _ < _ := this
      _ ≤ _ := h2
      _ = _ := by rw [Nat.mul_assoc, Nat.mul_comm 10]
theorem numOk_lt {s : List UInt8} (h : numOk s) : decV 0 s < 100000 := by
  have a := decV_lt s 0 h.2.2.2
  have b : 10 ^ s.length ≤ 10 ^ 5 := Nat.pow_le_pow_right (by decide) h.2.1
  omega
/-- What package addr says of a small number. -/
def smE (s : List UInt8) (most : Int) : Bool := if numOk s then decide ((decV 0 s : Int) ≤ most) else false
def smN (s : List UInt8) : Int := if numOk s then (decV 0 s : Int) else 0
theorem sm_ok {s : List UInt8} {most : Int} (h : smE s most = true) : numOk s ∧ smN s = (decV 0 s : Int) ∧ (decV 0 s : Int) ≤ most := by
  unfold smE at h
  split at h
  · rename_i k; exact ⟨k, by unfold smN; rw [if_pos k], by simpa using h⟩
  · cases h
theorem sm_dec {u : Nat} {most : Int} (h : u < 100000) (h2 : (u : Int) ≤ most) : smE (decDigits u) most = true ∧ smN (decDigits u) = (u : Int) := by
  unfold smE smN
  rw [if_pos (dec_ok h), if_pos (dec_ok h), dec_val]
  exact ⟨by simpa using h2, rfl⟩
/-- The text of an address; an address of a text. -/
def adrT (a : Nat) : List UInt8 := join [decDigits (a / 16777216 % 256), decDigits (a / 65536 % 256), decDigits (a / 256 % 256), decDigits (a % 256)] [46]
theorem dot_no {u : Nat} : (46 : UInt8) ∉ decDigits u := all_not (dec_all u) (by decide)
theorem adrT_spl (a : Nat) : spl 46 (adrT a) = [decDigits (a / 16777216 % 256), decDigits (a / 65536 % 256), decDigits (a / 256 % 256), decDigits (a % 256)] :=
  spl_join (by simp) fun x hx => by
    simp only [List.mem_cons, List.not_mem_nil, or_false] at hx
    rcases hx with rfl | rfl | rfl | rfl <;> exact dot_no
def adrR (s : List UInt8) : Nat × Int :=
  match spl 46 s with
  | [a, b, c, d] => if smE a 255 = true ∧ smE b 255 = true ∧ smE c 255 = true ∧ smE d 255 = true then (((decV 0 a * 256 + decV 0 b) * 256 + decV 0 c) * 256 + decV 0 d, 0) else (0, 3)
  | _ => (0, 3)
theorem adr_back (a : Nat) (h : a < 4294967296) : adrR (adrT a) = (a, 0) := by
  unfold adrR
  rw [adrT_spl]
  have k : ∀ u, u < 256 → smE (decDigits u) 255 = true := fun u hu => (sm_dec (by omega) (by omega)).1
  show (if _ then _ else _) = _
  rw [if_pos ⟨k _ (Nat.mod_lt _ (by decide)), k _ (Nat.mod_lt _ (by decide)), k _ (Nat.mod_lt _ (by decide)), k _ (Nat.mod_lt _ (by decide))⟩, dec_val, dec_val, dec_val, dec_val]
  refine Prod.ext ?_ rfl
  show ((a / 16777216 % 256 * 256 + a / 65536 % 256) * 256 + a / 256 % 256) * 256 + a % 256 = a
  omega
theorem adr_turns {s : List UInt8} (h : (adrR s).2 = 0) : adrT (adrR s).1 = s ∧ (adrR s).1 < 4294967296 := by
  unfold adrR at h ⊢
  split at h
  · rename_i a b c d e
    split at h
    · rename_i k
      rw [if_pos k]
      obtain ⟨ka, kb, kc, kd⟩ := k
      have ka := sm_ok ka; have kb := sm_ok kb; have kc := sm_ok kc; have kd := sm_ok kd
      have ha := ka.2.2; have hb := kb.2.2; have hc := kc.2.2; have hd := kd.2.2
      refine ⟨?_, by show ((decV 0 a * 256 + decV 0 b) * 256 + decV 0 c) * 256 + decV 0 d < _; omega⟩
      show adrT (((decV 0 a * 256 + decV 0 b) * 256 + decV 0 c) * 256 + decV 0 d) = s
      unfold adrT
      rw [show (((decV 0 a * 256 + decV 0 b) * 256 + decV 0 c) * 256 + decV 0 d) / 16777216 % 256 = decV 0 a from by omega,
        show (((decV 0 a * 256 + decV 0 b) * 256 + decV 0 c) * 256 + decV 0 d) / 65536 % 256 = decV 0 b from by omega,
        show (((decV 0 a * 256 + decV 0 b) * 256 + decV 0 c) * 256 + decV 0 d) / 256 % 256 = decV 0 c from by omega,
        show (((decV 0 a * 256 + decV 0 b) * 256 + decV 0 c) * 256 + decV 0 d) % 256 = decV 0 d from by omega,
        dec_back ka.1, dec_back kb.1, dec_back kc.1, dec_back kd.1, ← e, join_spl]
    · cases h
  · cases h
theorem adr_no {s : List UInt8} (h : (adrR s).2 ≠ 0) : (adrR s).1 = 0 := by
  unfold adrR at h ⊢
  split
  · rename_i a b c d e
    rw [e] at h
    by_cases k : smE a 255 = true ∧ smE b 255 = true ∧ smE c 255 = true ∧ smE d 255 = true
    · exact absurd (by simp only [k]; rfl) h
    · rw [if_neg k]
  · rfl
theorem adrT_len (a : Nat) : (adrT a).length ≤ 15 := by
  have k : ∀ u, u < 256 → (decDigits u).length ≤ 3 := fun u hu => by
    rw [decDigits_length]
    by_cases h1 : u < 10
    · rw [nDigits_small h1]; decide
    by_cases h2 : u < 100
    · rw [nDigits_unique 1 u (by omega) (by omega)]; decide
    · rw [nDigits_unique 2 u (by omega) (by omega)]; decide
  have := k _ (Nat.mod_lt (a / 16777216) (by decide : 0 < 256)); have := k _ (Nat.mod_lt (a / 65536) (by decide : 0 < 256))
  have := k _ (Nat.mod_lt (a / 256) (by decide : 0 < 256)); have := k _ (Nat.mod_lt a (by decide : 0 < 256))
  unfold adrT
  rw [join_cons2, join_cons2, join_cons2, join_one]
  simp only [List.length_append, List.length_cons, List.length_nil]
  omega
end Go.Proofs.YtcebndkiagbddaaDoor
