/- Plain facts about packets as bytes; no program in sight. -/
namespace Go.Proofs.Ytnopdnclefopbaa
set_option linter.unusedVariables false

def be4 (x : Nat) : List UInt8 := [UInt8.ofNat (x / 2 ^ 24), UInt8.ofNat (x / 2 ^ 16), UInt8.ofNat (x / 2 ^ 8), UInt8.ofNat x]
def of4 (a b c d : UInt8) : Nat := a.toNat * 2 ^ 24 + b.toNat * 2 ^ 16 + c.toNat * 2 ^ 8 + d.toNat
theorem be4_length (x : Nat) : (be4 x).length = 4 := rfl
theorem of4_lt (a b c d : UInt8) : of4 a b c d < 4294967296 := by
  unfold of4
  have := a.toNat_lt; have := b.toNat_lt; have := c.toNat_lt; have := d.toNat_lt
  omega
theorem of4_be4 (x : Nat) (h : x < 4294967296) : of4 (UInt8.ofNat (x / 2 ^ 24)) (UInt8.ofNat (x / 2 ^ 16)) (UInt8.ofNat (x / 2 ^ 8)) (UInt8.ofNat x) = x := by
  unfold of4
  simp only [UInt8.toNat_ofNat']
  omega
theorem be4_of4 (a b c d : UInt8) : be4 (of4 a b c d) = [a, b, c, d] := by
  have h1 := a.toNat_lt; have h2 := b.toNat_lt; have h3 := c.toNat_lt; have h4 := d.toNat_lt
  have e : ∀ (n : Nat) (u : UInt8), n % 256 = u.toNat → UInt8.ofNat n = u := fun n u h => UInt8.toNat_inj.1 (by rw [UInt8.toNat_ofNat', h])
  unfold be4 of4
  simp only [List.cons.injEq, and_true]
  exact ⟨e _ _ (by omega), e _ _ (by omega), e _ _ (by omega), e _ _ (by omega)⟩
theorem or_shl8 (a b : Nat) (hb : b < 256) : a * 2 ^ 8 ||| b = a * 256 + b := by
  rw [Nat.mul_comm, ← Nat.two_pow_add_eq_or_of_lt hb]
/-- The sum of the words of two bytes. -/
def wsum : List UInt8 → Nat
  | a :: b :: t => a.toNat * 256 + b.toNat + wsum t
  | _ => 0
theorem wsum_le : ∀ l : List UInt8, wsum l ≤ 65535 * l.length
  | [] => by simp [wsum]
  | [a] => by simp [wsum]
  | a :: b :: t => by
    have := wsum_le t
    have := a.toNat_lt; have := b.toNat_lt
    simp [wsum]; omega
theorem wsum_two : ∀ (k : Nat) (l : List UInt8) (a b : UInt8), l[2 * k]? = some a → l[2 * k + 1]? = some b → wsum (l.take (2 * k + 2)) = wsum (l.take (2 * k)) + (a.toNat * 256 + b.toNat)
  | 0, x :: y :: t, a, b, ha, hb => by simp at ha hb; subst ha hb; simp [wsum]
  | 0, [x], a, b, ha, hb => by simp at hb
  | 0, [], a, b, ha, hb => by simp at hb
  | k + 1, [], a, b, ha, hb => by simp at hb
  | k + 1, [x], a, b, ha, hb => by simp at hb
  | k + 1, x :: y :: t, a, b, ha, hb => by
    have e1 : 2 * (k + 1) = 2 * k + 1 + 1 := by omega
    rw [e1] at ha hb ⊢
    simp only [List.getElem?_cons_succ] at ha hb
    have := wsum_two k t a b ha hb
    simp only [List.take_succ_cons, wsum]
    rw [this]; omega
def fold16 (n : Nat) : Nat := if h : n ≤ 65535 then n else fold16 (n / 65536 + n % 65536)
termination_by n
decreasing_by omega
theorem fold16_lo {n : Nat} (h : n ≤ 65535) : fold16 n = n := by rw [fold16, dif_pos h]
theorem fold16_hi {n : Nat} (h : ¬ n ≤ 65535) : fold16 n = fold16 (n / 65536 + n % 65536) := by rw [fold16, dif_neg h]
theorem fold16_facts (n : Nat) : fold16 n ≤ 65535 ∧ fold16 n % 65535 = n % 65535 ∧ (fold16 n = 0 ↔ n = 0) := by
  induction n using Nat.strongRecOn with
  | _ n ih =>
    by_cases h : n ≤ 65535
    · rw [fold16_lo h]; exact ⟨h, rfl, Iff.rfl⟩
    · rw [fold16_hi h]
      obtain ⟨a1, a2, a3⟩ := ih (n / 65536 + n % 65536) (by omega)
      exact ⟨a1, by omega, by omega⟩
def inet (l : List UInt8) : Nat := 65535 - fold16 (wsum l)
theorem inet_lt (l : List UInt8) : inet l < 65536 := by unfold inet; omega
/-- The header of a packet of n bytes without its sum, its sum, with its sum; the packet. -/
def pk12 (n : Nat) : List UInt8 := [69, 0, UInt8.ofNat (n / 2 ^ 8), UInt8.ofNat n, 0, 0, 0, 0, 64, 253, 0, 0]
theorem pk12_length (n : Nat) : (pk12 n).length = 12 := rfl
def pkHead0 (n src dst : Nat) : List UInt8 := pk12 n ++ be4 src ++ be4 dst
def pkSum (n src dst : Nat) : Nat := inet (pkHead0 n src dst)
def pkHead (n src dst : Nat) : List UInt8 := [69, 0, UInt8.ofNat (n / 2 ^ 8), UInt8.ofNat n, 0, 0, 0, 0, 64, 253, UInt8.ofNat (pkSum n src dst / 2 ^ 8), UInt8.ofNat (pkSum n src dst)] ++ be4 src ++ be4 dst
def pkEnc (src dst : Nat) (d : List UInt8) : List UInt8 := pkHead (20 + d.length) src dst ++ d
theorem pkHead0_length (n src dst : Nat) : (pkHead0 n src dst).length = 20 := rfl
theorem pkHead_length (n src dst : Nat) : (pkHead n src dst).length = 20 := rfl
theorem pkHead_set (n src dst : Nat) : ((pkHead0 n src dst).set 10 (UInt8.ofNat (pkSum n src dst / 2 ^ 8))).set 11 (UInt8.ofNat (pkSum n src dst)) = pkHead n src dst := rfl
def pkSrc (l : List UInt8) : Nat := of4 (l.getD 12 0) (l.getD 13 0) (l.getD 14 0) (l.getD 15 0)
def pkDst (l : List UInt8) : Nat := of4 (l.getD 16 0) (l.getD 17 0) (l.getD 18 0) (l.getD 19 0)
/-- packet.Decode accepts these bytes. -/
def pkGood (l : List UInt8) : Prop := pkEnc (pkSrc l) (pkDst l) (l.drop 20) = l
instance (l : List UInt8) : Decidable (pkGood l) := by unfold pkGood; infer_instance
theorem pkSrc_lt (l : List UInt8) : pkSrc l < 4294967296 := of4_lt _ _ _ _
theorem pkDst_lt (l : List UInt8) : pkDst l < 4294967296 := of4_lt _ _ _ _
theorem pkEnc_length (src dst : Nat) (d : List UInt8) : (pkEnc src dst d).length = 20 + d.length := by unfold pkEnc; rw [List.length_append, pkHead_length]
end Go.Proofs.Ytnopdnclefopbaa
