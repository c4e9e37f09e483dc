/- What the package wire computes, and that decoding turns encoding back: plain facts, with no program in sight. -/
import Derived.Test.YtpcagbfnddgjpaaWireMath
import Derived.Test.YtpcagbfnddgjpaaPickF
import Derived.Test.YtpcagbfnddgjpaaFB
namespace Go.Proofs.Ytpcagbfnddgjpaa
open Go.RowKit
set_option linter.unusedVariables false
set_option linter.unusedSimpArgs false

/-- The shape of a type. -/
def wLeast (t : Int) : Int := if t = 1 then 32 else if t = 2 then 24 else if t = 4 then 16 else 0
def wMost (t : Int) : Int := if t = 1 then 32 else if t = 2 then 24 else if t = 4 then 236 else 0
def wSnd (t : Int) : Bool := decide (t = 1) || decide (t = 2)
def wRcv (t : Int) : Bool := decide (t = 2) || decide (t = 4)
def wCnt (t : Int) : Bool := decide (t = 4)
def wIs (t : Int) : Bool := decide (t = 1) || decide (t = 2) || decide (t = 4)
def wChk (t s r c : Int) (n : Nat) : Int :=
  bif !wIs t then 2
  else bif (!wSnd t && !decide (s = 0)) || (!wRcv t && !decide (r = 0)) || (!wCnt t && !decide (c = 0)) then 3
  else bif decide (s < 0) || decide (4294967295 < s) || decide (r < 0) || decide (4294967295 < r) || decide (c < 0) || decide (1099511627776 < c) then 4
  else bif decide ((n : Int) < wLeast t) || decide (wMost t < (n : Int)) then 1 else 0

/-- n in k bytes, the lowest one first. -/
def leB : Nat → Int → List UInt8
  | 0, _ => []
  | k + 1, n => leB k n ++ [u8of (n / 256 ^ k)]
theorem leB_length (n : Int) : ∀ k, (leB k n).length = k
  | 0 => rfl
  | k + 1 => by simp [leB, leB_length n k]

theorem wChk_ok {t s r c : Int} {n : Nat} (h : wChk t s r c n = 0) : wIs t = true ∧ 0 ≤ s ∧ s ≤ 4294967295 ∧ 0 ≤ r ∧ r ≤ 4294967295 ∧ 0 ≤ c ∧ c ≤ 1099511627776 ∧ wLeast t ≤ n ∧ n ≤ wMost t := by
  unfold wChk at h
  cases h1 : wIs t with
  | false => rw [h1] at h; simp at h
  | true =>
    rw [h1] at h
    simp only [Bool.not_true, cond_false] at h
    revert h
    cases (!wSnd t && !decide (s = 0) || !wRcv t && !decide (r = 0) || !wCnt t && !decide (c = 0)) with
    | true => intro h; cases h
    | false =>
      simp only [cond_false]
      cases h3 : (decide (s < 0) || decide (4294967295 < s) || decide (r < 0) || decide (4294967295 < r) || decide (c < 0) || decide (1099511627776 < c)) with
      | true => intro h; cases h
      | false =>
        simp only [cond_false]
        cases h4 : (decide ((n : Int) < wLeast t) || decide (wMost t < (n : Int))) with
        | true => intro h; cases h
        | false =>
          intro _
          simp at h3 h4
          exact ⟨trivial, by omega, by omega, by omega, by omega, by omega, by omega, by omega, by omega⟩
/-- A message in bytes. -/
def wEnc (t s r c : Int) (l : List UInt8) : List UInt8 :=
  [u8of t, 0, 0, 0] ++ (bif wSnd t then leB 4 s else []) ++ (bif wRcv t then leB 4 r else []) ++ (bif wCnt t then leB 8 c else []) ++ l

/-- The number of some bytes, in 64 bits. -/
def nB (l : List UInt8) : Int := IntKind.i64.wrap (unle l : Int)
theorem wrap_mod (a b : Int) (h : a % 18446744073709551616 = b % 18446744073709551616) : IntKind.i64.wrap a = IntKind.i64.wrap b := by
  rw [IntKind.wrap_i64, IntKind.wrap_i64]; omega
theorem wrap_self (a : Int) : IntKind.i64.wrap a % 18446744073709551616 = a % 18446744073709551616 := by
  rw [IntKind.wrap_i64]; omega
theorem nB_step (v : Nat) (b : UInt8) : IntKind.i64.wrap ((BitVec.ofInt 64 (IntKind.i64.wrap (IntKind.i64.wrap (v : Int) * 256)) ||| BitVec.ofInt 64 (b.toNat : Int)).toNat : Int) = IntKind.i64.wrap ((b.toNat + 256 * v : Nat) : Int) := by
  have hb := b.toNat_lt
  have e1 : BitVec.ofInt 64 (IntKind.i64.wrap (IntKind.i64.wrap (v : Int) * 256)) = BitVec.ofNat 64 (v * 256) := by
    apply BitVec.eq_of_toNat_eq
    rw [BitVec.toNat_ofInt, BitVec.toNat_ofNat]
    have h1 := wrap_self (IntKind.i64.wrap (v : Int) * 256)
    have h2 := wrap_self (v : Int)
    simp only [Int.reducePow, Nat.reducePow] at *
    omega
  have e2 : BitVec.ofInt 64 (b.toNat : Int) = BitVec.ofNat 64 b.toNat := by
    apply BitVec.eq_of_toNat_eq
    rw [BitVec.toNat_ofInt, BitVec.toNat_ofNat]; omega
  rw [e1, e2, BitVec.toNat_or, BitVec.toNat_ofNat, BitVec.toNat_ofNat]
  have e3 : v * 256 % 2 ^ 64 ||| b.toNat % 2 ^ 64 = (v * 256 % 2 ^ 64) + b.toNat := by
    have h1 : v * 256 % 2 ^ 64 = (v % 2 ^ 56) <<< 8 := by rw [Nat.shiftLeft_eq]; omega
    rw [h1, Nat.mod_eq_of_lt (show b.toNat < 2 ^ 64 by omega), ← Nat.shiftLeft_add_eq_or_of_lt (by omega)]
  rw [e3]
  apply wrap_mod
  omega
theorem nB_next {l : List UInt8} {m j : Nat} (hj : j < m) (hm : m ≤ l.length) : nB ((l.take m).drop (m - (j + 1))) = IntKind.i64.wrap (((l.getD (((m : Int) - 1 - j).toNat * 1) 0).toNat + 256 * unle ((l.take m).drop (m - j)) : Nat) : Int) := by
  have e : m - (j + 1) < (l.take m).length := by rw [List.length_take]; omega
  unfold nB
  rw [unle_drop _ _ e]
  have e1 : ((m : Int) - 1 - j).toNat * 1 = m - (j + 1) := by omega
  have e2 : (l.take m)[m - (j + 1)] = l.getD (m - (j + 1)) 0 := by
    rw [List.getElem_take, List.getD_eq_getElem?_getD, List.getElem?_eq_getElem (by omega)]; rfl
  rw [e1, e2, show m - (j + 1) + 1 = m - j from by omega]

/-- A number of m bytes, of what is left; true: there were too few bytes. -/
def wNum (m : Nat) (q : Bool × List UInt8) : Int × (Bool × List UInt8) :=
  bif q.1 || decide ((q.2.length : Int) < m) then (0, (true, q.2)) else (nB (q.2.take m), (false, q.2.drop m))
theorem pair_eta {α β : Type} (p : α × β) : (p.1, p.2) = p := rfl
theorem wNum_len (m : Nat) (q : Bool × List UInt8) : (wNum m q).2.2.length ≤ q.2.length := by
  unfold wNum
  cases (q.1 || decide ((q.2.length : Int) < m)) <;> simp
/-- What of a message comes behind its four first bytes. -/
def wTake (on : Bool) (m : Nat) (q : Bool × List UInt8) : Int × (Bool × List UInt8) := bif on then wNum m q else (0, q)
def wDec (l : List UInt8) : Int × Int × Int × Int × List UInt8 × Int :=
  let t : Int := (l.getD 0 0).toNat
  let a := wTake (wSnd t) 4 (false, l.drop 4)
  let b := wTake (wRcv t) 4 a.2
  let c := wTake (wCnt t) 8 b.2
  bif decide ((l.length : Int) < 4) then (0, 0, 0, 0, [], 8)
  else bif !wIs t then (0, 0, 0, 0, [], 2)
  else bif !decide (l.getD 1 0 = 0) || !decide (l.getD 2 0 = 0) || !decide (l.getD 3 0 = 0) then (0, 0, 0, 0, [], 3)
  else bif c.2.1 then (0, 0, 0, 0, [], 8)
  else bif !decide (wChk t a.1 b.1 c.1 c.2.2.length = 0) then (0, 0, 0, 0, [], wChk t a.1 b.1 c.1 c.2.2.length)
  else (t, a.1, b.1, c.1, c.2.2, 0)
theorem leB_le (n : Nat) : ∀ k, leB k (n : Int) = le k n
  | 0 => rfl
  | k + 1 => by
    rw [le_snoc, leB, leB_le n k]
    congr 2
    unfold u8of
    apply UInt8.toNat_inj.1
    have e : (n : Int) / 256 ^ k = ((n / 256 ^ k : Nat) : Int) := by simp
    rw [e, UInt8.toNat_ofNat', UInt8.toNat_ofNat']
    omega
theorem nB_leB {n : Int} {k : Nat} (h0 : 0 ≤ n) (h1 : n < 256 ^ k) (h2 : n ≤ 9223372036854775807) : nB (leB k n) = n := by
  obtain ⟨m, rfl⟩ := Int.eq_ofNat_of_zero_le h0
  rw [leB_le]
  unfold nB
  rw [unle_le k m (by have : (m : Int) < ((256 ^ k : Nat) : Int) := by simpa using h1
                      omega)]
  exact w64 (by omega) h2
theorem wNum_leB {n : Int} {k : Nat} (l : List UInt8) (h0 : 0 ≤ n) (h1 : n < 256 ^ k) (h2 : n ≤ 9223372036854775807) : wNum k (false, leB k n ++ l) = (n, (false, l)) := by
  have hl := leB_length n k
  unfold wNum
  have e : decide ((((leB k n ++ l).length : Nat) : Int) < (k : Int)) = false := by
    apply decide_eq_false; rw [List.length_append, hl]; omega
  simp only [Bool.false_or, e, cond_false]
  rw [List.take_left' hl, List.drop_left' hl, nB_leB h0 h1 h2]
theorem wNum_inv {k : Nat} {l : List UInt8} (h : (wNum k (false, l)).2.1 = false) (hk : k ≤ 8) (h0 : 0 ≤ (wNum k (false, l)).1) : leB k (wNum k (false, l)).1 ++ (wNum k (false, l)).2.2 = l := by
  unfold wNum at h h0 ⊢
  cases e : (false || decide (((l.length : Nat) : Int) < (k : Int))) with
  | true => simp only [e, cond_true] at h; cases h
  | false =>
    simp only [e, cond_false] at h0 ⊢
    have hlen : k ≤ l.length := by simp at e; omega
    have e1 : (l.take k).length = k := by rw [List.length_take]; omega
    have hlt := unle_lt (l.take k)
    rw [e1] at hlt
    have hp : 256 ^ k ≤ 256 ^ 8 := Nat.pow_le_pow_right (by decide) hk
    have e2 : nB (l.take k) = (unle (l.take k) : Int) := by
      unfold nB at h0 ⊢
      rw [IntKind.wrap_i64] at h0 ⊢
      simp at hp
      omega
    have e3 := le_unle (l.take k)
    rw [e1] at e3
    rw [e2, leB_le, e3, List.take_append_drop]
theorem wChk_zero {t s r c : Int} {n : Nat} (h : wChk t s r c n = 0) : (wSnd t = false → s = 0) ∧ (wRcv t = false → r = 0) ∧ (wCnt t = false → c = 0) := by
  have h1 := (wChk_ok h).1
  unfold wChk at h
  rw [h1] at h
  simp only [Bool.not_true, cond_false] at h
  cases h3 : (!wSnd t && !decide (s = 0) || !wRcv t && !decide (r = 0) || !wCnt t && !decide (c = 0)) with
  | true => rw [h3] at h; cases h
  | false =>
    refine ⟨fun e => ?_, fun e => ?_, fun e => ?_⟩ <;> simp [e] at h3 <;> simp [h3]
theorem wIs_cases {t : Int} (h : wIs t = true) : t = 1 ∨ t = 2 ∨ t = 4 := by unfold wIs at h; simpa [or_assoc] using h
theorem wTake_enc {on : Bool} {n : Int} {k : Nat} (l : List UInt8) (h0 : 0 ≤ n) (h1 : n < 256 ^ k) (h2 : n ≤ 9223372036854775807) (hz : on = false → n = 0) : wTake on k (false, (bif on then leB k n else []) ++ l) = (n, (false, l)) := by
  unfold wTake
  cases on with
  | true => exact wNum_leB l h0 h1 h2
  | false => rw [hz rfl]; rfl
/-- Decoding an encoding. -/
theorem wDec_enc {t s r c : Int} {l : List UInt8} (h : wChk t s r c l.length = 0) : wDec (wEnc t s r c l) = (t, s, r, c, l, 0) := by
  obtain ⟨h1, s1, s2, r1, r2, c1, c2, _, _⟩ := wChk_ok h
  obtain ⟨z1, z2, z3⟩ := wChk_zero h
  have ht : ((u8of t).toNat : Int) = t := by
    rw [u8of_toNat]; rcases wIs_cases h1 with rfl | rfl | rfl <;> rfl
  unfold wDec wEnc
  have e0 : ([u8of t, 0, 0, 0] ++ (bif wSnd t then leB 4 s else []) ++ (bif wRcv t then leB 4 r else []) ++ (bif wCnt t then leB 8 c else []) ++ l) = u8of t :: 0 :: 0 :: 0 :: ((bif wSnd t then leB 4 s else []) ++ ((bif wRcv t then leB 4 r else []) ++ ((bif wCnt t then leB 8 c else []) ++ l))) := by simp
  rw [e0]
  have hg0 : ∀ (a b c d : UInt8) (q : List UInt8), (a :: b :: c :: d :: q).getD 0 0 = a ∧ (a :: b :: c :: d :: q).getD 1 0 = b ∧ (a :: b :: c :: d :: q).getD 2 0 = c ∧ (a :: b :: c :: d :: q).getD 3 0 = d ∧ (a :: b :: c :: d :: q).drop 4 = q := fun _ _ _ _ _ => ⟨rfl, rfl, rfl, rfl, rfl⟩
  obtain ⟨g0, g1, g2, g3, g4⟩ := hg0 (u8of t) 0 0 0 ((bif wSnd t then leB 4 s else []) ++ ((bif wRcv t then leB 4 r else []) ++ ((bif wCnt t then leB 8 c else []) ++ l)))
  have hlen : decide ((((u8of t :: 0 :: 0 :: 0 :: ((bif wSnd t then leB 4 s else []) ++ ((bif wRcv t then leB 4 r else []) ++ ((bif wCnt t then leB 8 c else []) ++ l)))).length : Nat) : Int) < 4) = false := by
    apply decide_eq_false; simp only [List.length_cons]; omega
  simp only [g0, g1, g2, g3, g4, ht, hlen]
  rw [wTake_enc _ s1 (by omega) (by omega) z1]
  simp only
  rw [wTake_enc _ r1 (by omega) (by omega) z2]
  simp only
  rw [wTake_enc _ c1 (by omega) (by omega) z3]
  simp [h1, h]
theorem wTake_inv {on : Bool} {k : Nat} {l : List UInt8} (h : (wTake on k (false, l)).2.1 = false) (hk : k ≤ 8) (h0 : 0 ≤ (wTake on k (false, l)).1) : (bif on then leB k (wTake on k (false, l)).1 else []) ++ (wTake on k (false, l)).2.2 = l := by
  unfold wTake at h h0 ⊢
  cases on with
  | true => exact wNum_inv h hk h0
  | false => rfl
theorem wTake_true {on : Bool} {k : Nat} {l : List UInt8} : (wTake on k (true, l)).2.1 = true := by
  unfold wTake wNum; cases on <;> rfl
/-- What decodes without an error is an encoding. -/
theorem wDec_inv {b : List UInt8} (h : (wDec b).2.2.2.2.2 = 0) : wChk (wDec b).1 (wDec b).2.1 (wDec b).2.2.1 (wDec b).2.2.2.1 (wDec b).2.2.2.2.1.length = 0 ∧ wEnc (wDec b).1 (wDec b).2.1 (wDec b).2.2.1 (wDec b).2.2.2.1 (wDec b).2.2.2.2.1 = b := by
  unfold wDec at h ⊢
  simp only at h ⊢
  cases q1 : decide ((b.length : Int) < 4) with
  | true => rw [q1] at h; simp at h
  | false =>
    rw [q1] at h
    simp only [cond_false] at h ⊢
    generalize ht : (((b.getD 0 0).toNat : Nat) : Int) = t at h ⊢
    cases q2 : wIs t with
    | false => rw [q2] at h; simp at h
    | true =>
      rw [q2] at h
      simp only [Bool.not_true, cond_false] at h ⊢
      cases q3 : (!decide (b.getD 1 0 = 0) || !decide (b.getD 2 0 = 0) || !decide (b.getD 3 0 = 0)) with
      | true => rw [q3] at h; simp at h
      | false =>
        rw [q3] at h
        simp only [cond_false] at h ⊢
        cases q4 : (wTake (wCnt t) 8 (wTake (wRcv t) 4 (wTake (wSnd t) 4 (false, b.drop 4)).2).2).2.1 with
        | true => rw [q4] at h; simp at h
        | false =>
          rw [q4] at h
          simp only [cond_false] at h ⊢
          generalize ha : wTake (wSnd t) 4 (false, b.drop 4) = a at h q4 ⊢
          generalize hb : wTake (wRcv t) 4 a.2 = bb at h q4 ⊢
          generalize hc : wTake (wCnt t) 8 bb.2 = c at h q4 ⊢
          cases q5 : decide (wChk t a.1 bb.1 c.1 c.2.2.length = 0) with
          | false => rw [q5] at h; simp only [Bool.not_false, cond_true] at h; exact absurd h (of_decide_eq_false q5)
          | true =>
            simp only [Bool.not_true, cond_false]
            have q6 := of_decide_eq_true q5
            refine ⟨q6, ?_⟩
            obtain ⟨h1, s1, s2, r1, r2, c1, c2, _, _⟩ := wChk_ok q6
            have f2 : bb.2.1 = false := by
              cases e : bb.2.1 with
              | false => rfl
              | true =>
                have : bb.2 = (true, bb.2.2) := by rw [← e]
                rw [this] at hc; rw [← hc, wTake_true] at q4; cases q4
            have f1 : a.2.1 = false := by
              cases e : a.2.1 with
              | false => rfl
              | true =>
                have : a.2 = (true, a.2.2) := by rw [← e]
                rw [this] at hb; rw [← hb, wTake_true] at f2; cases f2
            have e1 := wTake_inv (on := wSnd t) (k := 4) (l := b.drop 4) (by rw [ha]; exact f1) (by decide) (by rw [ha]; exact s1)
            have p1 : a.2 = (false, a.2.2) := by rw [← f1]
            have e2 := wTake_inv (on := wRcv t) (k := 4) (l := a.2.2) (by rw [← p1, hb]; exact f2) (by decide) (by rw [← p1, hb]; exact r1)
            have p2 : bb.2 = (false, bb.2.2) := by rw [← f2]
            have e3 := wTake_inv (on := wCnt t) (k := 8) (l := bb.2.2) (by rw [← p2, hc]; exact q4) (by decide) (by rw [← p2, hc]; exact c1)
            rw [ha] at e1
            rw [← p1, hb] at e2
            rw [← p2, hc] at e3
            unfold wEnc
            have hl : 4 ≤ b.length := by simp at q1; omega
            match b, hl with
            | b0 :: b1 :: b2 :: b3 :: q, _ =>
              simp only [List.getD_cons_zero, List.getD_cons_succ, Bool.or_eq_false_iff, Bool.not_eq_false', decide_eq_true_eq] at q3 ht
              obtain ⟨⟨k1, k2⟩, k3⟩ := q3
              rw [k1, k2, k3, ← ht, u8of_id, ht]
              simp only [List.drop_succ_cons, List.drop_zero] at e1
              simp only [List.append_assoc, List.cons_append, List.nil_append]
              rw [e3, e2, e1]
/-- One of so many. -/
def mT (k : Int) : Int := bif decide (pk k 3 = 0) then 1 else bif decide (pk k 3 = 1) then 2 else 4
def m3 {α : Type} (k : Int) (x y z : α) : α := bif decide (mT k = 1) then x else bif decide (mT k = 2) then y else z
/-- The length of the body. -/
def mL (k : Int) (s : List UInt8) : Nat := m3 k 32 24 (16 + min s.length 200)
/-- The message of raw things may be sent. -/
theorem mT_cases (k : Int) : mT k = 1 ∨ mT k = 2 ∨ mT k = 4 := by
  unfold mT
  cases decide (pk k 3 = 0) <;> cases decide (pk k 3 = 1) <;> simp
end Go.Proofs.Ytpcagbfnddgjpaa
