/- Plain facts about messages as bytes; no program in sight. -/
namespace Go.Proofs.Ytpcagbfnddgjpaa
set_option linter.unusedVariables false
set_option linter.unusedSimpArgs false

/-- A number in n bytes, the lowest one first. -/
def le : Nat → Nat → List UInt8
  | 0, _ => []
  | n + 1, x => UInt8.ofNat x :: le n (x / 256)
def unle : List UInt8 → Nat
  | [] => 0
  | b :: t => b.toNat + 256 * unle t
theorem le_length : ∀ n x, (le n x).length = n
  | 0, _ => rfl
  | n + 1, x => by simp [le, le_length n]
theorem unle_lt : ∀ l : List UInt8, unle l < 256 ^ l.length
  | [] => by simp [unle]
  | b :: t => by
    have h1 := unle_lt t
    have h2 := b.toNat_lt
    simp only [unle, List.length_cons, Nat.pow_succ]
    omega
theorem unle_le : ∀ n x, x < 256 ^ n → unle (le n x) = x
  | 0, x, h => by simp [unle, le] at h ⊢; omega
  | n + 1, x, h => by
    rw [Nat.pow_succ] at h
    have := unle_le n (x / 256) (by omega)
    simp only [le, unle, this, UInt8.toNat_ofNat']
    omega
theorem le_unle : ∀ l : List UInt8, le l.length (unle l) = l
  | [] => rfl
  | b :: t => by
    have h := b.toNat_lt
    simp only [List.length_cons, le, unle]
    rw [show (b.toNat + 256 * unle t) / 256 = unle t from by omega, le_unle t]
    congr 1
    exact UInt8.toNat_inj.1 (by rw [UInt8.toNat_ofNat']; omega)
theorem le_snoc : ∀ n x, le (n + 1) x = le n x ++ [UInt8.ofNat (x / 256 ^ n)]
  | 0, x => by simp [le]
  | n + 1, x => by
    rw [le, le_snoc n (x / 256)]
    simp only [le, List.cons_append]
    rw [Nat.div_div_eq_div_mul, show 256 * 256 ^ n = 256 ^ (n + 1) from by rw [Nat.pow_succ]; omega]
/-- What the loop of number has gathered: the bytes from j on. -/
theorem unle_drop (l : List UInt8) (j : Nat) (h : j < l.length) : unle (l.drop j) = l[j].toNat + 256 * unle (l.drop (j + 1)) := by
  rw [List.drop_eq_getElem_cons h]; rfl
theorem unle_append : ∀ l m : List UInt8, unle (l ++ m) = unle l + 256 ^ l.length * unle m
  | [], m => by simp [unle]
  | b :: t, m => by
    simp only [List.cons_append, unle, unle_append t m, List.length_cons, Nat.pow_succ]
    rw [Nat.mul_add, Nat.mul_comm (256 ^ t.length) 256, Nat.mul_assoc]; omega
end Go.Proofs.Ytpcagbfnddgjpaa
