/- Paths of bits as nets, plainly. It names no function of the program. -/
import Derived.Test.YtcebndkiagbddaaDoorTrieF
namespace Go.Proofs.YtcebndkiagbddaaDoor
set_option linter.unusedVariables false
set_option linter.unusedSimpArgs false

def adrN : List Bool → Nat
  | [] => 0
  | c :: p => (bif c then 2147483648 else 0) + adrN p / 2
theorem adrN_lt : ∀ p, adrN p < 4294967296
  | [] => by decide
  | c :: p => by
    have := adrN_lt p
    unfold adrN; cases c <;> simp only [cond_true, cond_false] <;> omega
theorem bit32 {x j : Nat} (h : x < 4294967296) (hj : 32 ≤ j) : x.testBit j = false := Nat.testBit_lt_two_pow (Nat.lt_of_lt_of_le h (Nat.pow_le_pow_right (n := 2) (i := 32) (by decide) hj))
theorem adrN_bit : ∀ (p : List Bool) (i : Nat), i < 32 → (adrN p).testBit (31 - i) = bitAt p i
  | [], i, _ => by unfold adrN bitAt; simp
  | c :: p, i, h => by
    have hl : adrN p / 2 < 2 ^ 31 := by have := adrN_lt p; omega
    cases i with
    | zero =>
      have e : (bif c then 2147483648 else 0) = (bif c then 2 ^ 31 else 0) := rfl
      unfold adrN
      cases c with
      | false => simp only [cond_false, Nat.zero_add]; rw [Nat.testBit_lt_two_pow hl]; rfl
      | true => simp only [cond_true]; rw [show (2147483648 : Nat) = 2 ^ 31 from rfl, Nat.testBit_two_pow_add_eq, Nat.testBit_lt_two_pow hl]; rfl
    | succ i =>
      have e : (adrN p / 2).testBit (31 - (i + 1)) = bitAt p i := by rw [Nat.testBit_div_two, show 31 - (i + 1) + 1 = 31 - i from by omega]; exact adrN_bit p i (by omega)
      have e2 : bitAt (c :: p) (i + 1) = bitAt p i := by unfold bitAt; simp
      rw [e2, ← e]
      have e3 : adrN (c :: p) = (bif c then 2147483648 else 0) + adrN p / 2 := by rw [adrN]
      rw [e3]
      cases c with
      | false => simp only [cond_false, Nat.zero_add]
      | true => simp only [cond_true]; rw [show (2147483648 : Nat) = 2 ^ 31 from rfl, Nat.testBit_two_pow_add_gt (by omega)]
def pathN (a k : Nat) : List Bool := (List.range k).map fun i => a.testBit (31 - i)
theorem pathN_len (a k : Nat) : (pathN a k).length = k := by unfold pathN; simp
theorem pathN_bit {a k i : Nat} : bitAt (pathN a k) i = (decide (i < k) && a.testBit (31 - i)) := by
  unfold bitAt pathN
  rw [List.getD_eq_getElem?_getD, List.getElem?_map]
  by_cases h : i < k
  · rw [List.getElem?_range h]; simp [h]
  · rw [List.getElem?_eq_none (by simp; omega)]; simp [h]
theorem bitAt_ge {p : List Bool} {i : Nat} (h : p.length ≤ i) : bitAt p i = false := by
  unfold bitAt; rw [List.getD_eq_getElem?_getD, List.getElem?_eq_none h]; rfl
theorem pcut_lt {a : Nat} (k : Nat) (h : a < 4294967296) : pcut a k < 4294967296 := Nat.lt_of_le_of_lt (pcut_le a k) h
theorem pcut_bit {a k i : Nat} (hk : k ≤ 32) (h : i < 32) : (pcut a k).testBit (31 - i) = (decide (i < k) && a.testBit (31 - i)) := by
  unfold pcut
  rw [Nat.testBit_mul_two_pow, Nat.testBit_div_two_pow]
  by_cases h' : i < k
  · rw [show 31 - i - (32 - k) + (32 - k) = 31 - i from by omega, decide_eq_true (by omega : 32 - k ≤ 31 - i), decide_eq_true h']
  · rw [decide_eq_false (by omega : ¬ 32 - k ≤ 31 - i), decide_eq_false h', Bool.false_and, Bool.false_and]
theorem nat32_ext {a b : Nat} (ha : a < 4294967296) (hb : b < 4294967296) (h : ∀ i, i < 32 → a.testBit (31 - i) = b.testBit (31 - i)) : a = b := by
  refine Nat.eq_of_testBit_eq fun j => ?_
  by_cases hj : j < 32
  · have := h (31 - j) (by omega)
    rwa [show 31 - (31 - j) = j from by omega] at this
  · rw [bit32 ha (by omega), bit32 hb (by omega)]
theorem adrN_path {a k : Nat} (ha : a < 4294967296) (hk : k ≤ 32) : adrN (pathN a k) = pcut a k := by
  refine nat32_ext (adrN_lt _) (pcut_lt k ha) fun i hi => ?_
  rw [adrN_bit _ _ hi, pathN_bit, pcut_bit hk hi]
theorem bitAt_take {p : List Bool} {k i : Nat} : bitAt (p.take k) i = (decide (i < k) && bitAt p i) := by
  unfold bitAt
  rw [List.getD_eq_getElem?_getD, List.getD_eq_getElem?_getD, List.getElem?_take]
  by_cases h : i < k
  · simp [h]
  · simp [h]
theorem pcut_adr (p : List Bool) {k : Nat} (hk : k ≤ 32) : pcut (adrN p) k = adrN (p.take k) := by
  refine nat32_ext (pcut_lt k (adrN_lt p)) (adrN_lt _) fun i hi => ?_
  rw [pcut_bit hk hi, adrN_bit _ _ hi, adrN_bit _ _ hi, bitAt_take]
theorem adrN_inj {p q : List Bool} (hl : p.length = q.length) (h : p.length ≤ 32) (e : adrN p = adrN q) : p = q := by
  refine List.ext_getElem hl fun i h1 h2 => ?_
  have a := adrN_bit p i (by omega)
  have b := adrN_bit q i (by omega)
  rw [e, b] at a
  unfold bitAt at a
  rw [List.getD_eq_getElem?_getD, List.getD_eq_getElem?_getD, List.getElem?_eq_getElem h1, List.getElem?_eq_getElem h2] at a
  exact a.symm
abbrev adr (p : List Bool) : UInt32 := UInt32.ofNat (adrN p)
theorem adr_nat (p : List Bool) : (adr p).toNat = adrN p := by
  show adrN p % 2 ^ 32 = adrN p
  exact Nat.mod_eq_of_lt (by have := adrN_lt p; omega)
theorem adr_inj {p q : List Bool} (hl : p.length = q.length) (h : p.length ≤ 32) (e : adr p = adr q) : p = q :=
  adrN_inj hl h (by rw [← adr_nat, ← adr_nat, e])
theorem adr_path (c : UInt32) {k : Nat} (hk : k ≤ 32) (hv : pvalid c.toNat (k : Int)) : adr (pathN c.toNat k) = c := by
  apply UInt32.toNat_inj.1
  rw [adr_nat, adrN_path c.toNat_lt hk]
  exact pcut_of_mod (by have := hv.2.2; rwa [Int.toNat_natCast] at this)
theorem adr_valid {p : List Bool} (h : p.length ≤ 32) : pvalid (adr p).toNat (p.length : Int) := by
  rw [adr_nat]
  refine ⟨by omega, by omega, ?_⟩
  rw [Int.toNat_natCast]
  have := pcut_adr p h
  rw [List.take_length] at this
  rw [← this]; exact pcut_mod _ _
theorem pcheck_adr {p : List Bool} (h : p.length ≤ 32) : pcheck (adr p).toNat (p.length : Int) = 0 := pcheck_zero.2 (adr_valid h)
theorem take_pre {p q : List Bool} (hl : p.length ≤ q.length) : q.take p.length = p ↔ p <+: q := by
  constructor
  · intro h; rw [← h]; exact List.take_prefix _ _
  · intro h; exact (List.prefix_iff_eq_take.1 h).symm
theorem pholds_adr {p q : List Bool} (hp : p.length ≤ 32) (hq : q.length ≤ 32) : pholds (adr p).toNat (p.length : Int) (adr q).toNat (q.length : Int) = decide (p <+: q) := by
  rw [Bool.eq_iff_iff, pholds_iff, decide_eq_true_iff]
  rw [Int.toNat_natCast, adr_nat q, pcut_adr q hp]
  constructor
  · rintro ⟨_, h, _, e⟩
    have hl : p.length ≤ q.length := by omega
    rw [adr_nat] at e
    exact (take_pre hl).1 (adrN_inj (by rw [List.length_take]; omega) (by rw [List.length_take]; omega) e)
  · intro h
    have hl := h.length_le
    refine ⟨by rw [← adr_nat q]; exact adr_valid hq, by omega, adr_valid hp, ?_⟩
    rw [(take_pre hl).2 h, adr_nat]
theorem phas_adr {p q : List Bool} (hp : p.length ≤ 32) (hq : q.length = 32) : phas (adr p).toNat (p.length : Int) (adr q).toNat = decide (p <+: q) := by
  rw [← pholds_adr hp (by omega), hq]
  have v : pvalid (adr q).toNat ((32 : Nat) : Int) := by rw [← hq]; exact adr_valid (by omega)
  have e : (p.length : Int) ≤ ((32 : Nat) : Int) := by omega
  generalize (adr q).toNat = x at v ⊢
  generalize (adr p).toNat = y
  unfold pholds
  cases phas y (p.length : Int) x
  · exact (decide_eq_false fun h => Bool.noConfusion h.2.2).symm
  · exact (decide_eq_true ⟨v, e, rfl⟩).symm
theorem pre_take {f p q : List Bool} : ∀ {k : Nat}, k ≤ p.length → k ≤ q.length → (p.take k = q.take k ↔ k ≤ (cpre p q).length) := by
  intro k h1 h2
  constructor
  · intro e
    have a : p.take k <+: p := List.take_prefix _ _
    have b : p.take k <+: q := by rw [e]; exact List.take_prefix _ _
    have := (cpre_max a b).length_le
    rw [List.length_take] at this; omega
  · intro h
    have a := List.prefix_iff_eq_take.1 (cpre_l p q)
    have b := List.prefix_iff_eq_take.1 (cpre_r p q)
    have c : (cpre p q).take k = p.take k := by conv => lhs; rw [a]
                                                rw [List.take_take, Nat.min_eq_left h]
    have d : (cpre p q).take k = q.take k := by conv => lhs; rw [b]
                                                rw [List.take_take, Nat.min_eq_left h]
    rw [← c, d]
theorem pjoin_adr {p q : List Bool} (hp : p.length ≤ 32) (hq : q.length ≤ 32) : pjoin (adr p).toNat p.length (adr q).toNat q.length = (cpre p q).length := by
  rw [adr_nat, adr_nat]
  have key : ∀ k : Nat, k ≤ p.length → k ≤ q.length → (k ≤ pjoin (adrN p) p.length (adrN q) q.length ↔ k ≤ (cpre p q).length) := fun k h1 h2 => by
    have a := pcut_same (adrN p) (adrN q) k (adrN_lt p) (adrN_lt q) (by omega)
    have b := pjoin_int (adrN p) p.length (adrN q) q.length (adrN_lt p) (adrN_lt q)
    rw [← pre_take (f := []) h1 h2]
    constructor
    · intro h
      have := a.2 (by omega)
      rw [pcut_adr p (by omega), pcut_adr q (by omega)] at this
      exact adrN_inj (by rw [List.length_take, List.length_take]; omega) (by rw [List.length_take]; omega) this
    · intro e
      have := a.1 (by rw [pcut_adr p (by omega), pcut_adr q (by omega), e])
      omega
  have h := pjoin_le (adrN p) p.length (adrN q) q.length
  have l1 := (cpre_l p q).length_le
  have l2 := (cpre_r p q).length_le
  have c1 := (key _ h.1 h.2).1 (Nat.le_refl _)
  have c2 := (key _ l1 l2).2 (Nat.le_refl _)
  omega
theorem pcut_join {p q : List Bool} (hp : p.length ≤ 32) : pcut (adr p).toNat (cpre p q).length = adrN (cpre p q) := by
  have := (cpre_l p q).length_le
  rw [adr_nat, pcut_adr p (by omega), (List.prefix_iff_eq_take.1 (cpre_l p q)).symm]
/-- The side of a net within another. -/
theorem side_adr {q : List Bool} {k : Nat} (h : k < 32) : (adrN q >>> (31 - k)) % 2 = (bitAt q k).toNat := by
  have := adrN_bit q k h
  rw [← this, Nat.toNat_testBit, Nat.shiftRight_eq_div_pow]
end Go.Proofs.YtcebndkiagbddaaDoor
