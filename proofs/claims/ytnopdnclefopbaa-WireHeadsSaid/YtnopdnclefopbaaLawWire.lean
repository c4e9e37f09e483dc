/- The plain laws of messages, with no program in sight. -/
import Derived.Test.YtnopdnclefopbaaCRaw
import Derived.Test.YtnopdnclefopbaaCWire
namespace Go.Proofs.Ytnopdnclefopbaa
open Go.RowKit
set_option linter.unusedVariables false
set_option linter.unusedSimpArgs false

theorem wEnc_length (t s r c : Int) (l : List UInt8) : (wEnc t s r c l).length = 4 + (bif wSnd t then 4 else 0) + (bif wRcv t then 4 else 0) + (bif wCnt t then 8 else 0) + l.length := by
  unfold wEnc
  cases wSnd t <;> cases wRcv t <;> cases wCnt t <;> simp [leB_length] <;> omega
theorem wChk_mk {t s r c : Int} {n : Nat} (h : wIs t = true) (z1 : wSnd t = false → s = 0) (z2 : wRcv t = false → r = 0) (z3 : wCnt t = false → c = 0) (s1 : 0 ≤ s) (s2 : s ≤ 4294967295) (r1 : 0 ≤ r) (r2 : r ≤ 4294967295) (c1 : 0 ≤ c) (c2 : c ≤ 1099511627776) (d1 : wLeast t ≤ n) (d2 : n ≤ wMost t) : wChk t s r c n = 0 := by
  unfold wChk
  have e1 : (!wSnd t && !decide (s = 0) || !wRcv t && !decide (r = 0) || !wCnt t && !decide (c = 0)) = false := by
    cases h1 : wSnd t <;> cases h2 : wRcv t <;> cases h3 : wCnt t <;> simp_all
  have e2 : (decide (s < 0) || decide (4294967295 < s) || decide (r < 0) || decide (4294967295 < r) || decide (c < 0) || decide (1099511627776 < c)) = false := by
    simp only [Bool.or_eq_false_iff, decide_eq_false_iff_not]; omega
  have e3 : (decide ((n : Int) < wLeast t) || decide (wMost t < (n : Int))) = false := by
    simp only [Bool.or_eq_false_iff, decide_eq_false_iff_not]; omega
  rw [h, e1, e2, e3]; rfl
/-- A message of raw things may be sent. -/
theorem msg_ok {k a b : Int} (s : List UInt8) : ∃ t x r c l, Hid (t = mT k ∧ x = m3 k (pk a 4294967296) (pk a 4294967296) 0 ∧ r = m3 k 0 (pk b 4294967296) (pk a 4294967296) ∧ c = m3 k 0 0 (pk b 1099511627777) ∧ l = pad (mL k s) s) ∧ wChk t x r c l.length = 0 ∧ 30 ≤ (wEnc t x r c l).length ∧ l.length ≤ 236 := by
  refine ⟨_, _, _, _, _, Lib.hid ⟨rfl, rfl, rfl, rfl, rfl⟩, ?_, ?_, ?_⟩
  all_goals
    have a1 := pk_ge a (m := 4294967296) (by decide)
    have a2 := pk_lt a (m := 4294967296) (by decide)
    have b1 := pk_ge b (m := 4294967296) (by decide)
    have b2 := pk_lt b (m := 4294967296) (by decide)
    have b3 := pk_ge b (m := 1099511627777) (by decide)
    have b4 := pk_lt b (m := 1099511627777) (by decide)
    try rw [wEnc_length]
    rw [pad_len]
    unfold mL m3
    first
    | (rcases mT_cases k with h | h | h <;> rw [h] <;> refine wChk_mk rfl ?_ ?_ ?_ ?_ ?_ ?_ ?_ ?_ ?_ ?_ ?_ <;> simp [wSnd, wRcv, wCnt, wLeast, wMost] <;> omega)
    | (rcases mT_cases k with h | h | h <;> rw [h] <;> simp [wSnd, wRcv, wCnt] <;> omega)
/-- What decodes with an error is nothing. -/
theorem wDec_bad {b : List UInt8} (h : (wDec b).2.2.2.2.2 ≠ 0) : (wDec b).1 = 0 ∧ (wDec b).2.2.2.2.1 = [] := by
  unfold wDec at h ⊢
  simp only at h ⊢
  cases q1 : decide ((b.length : Int) < 4) with
  | true => exact ⟨rfl, rfl⟩
  | false =>
    rw [q1] at h
    simp only [cond_false] at h ⊢
    cases q2 : wIs (((b.getD 0 0).toNat : Nat) : Int) with
    | false => exact ⟨rfl, rfl⟩
    | true =>
      rw [q2] at h
      simp only [Bool.not_true, cond_false] at h ⊢
      cases q3 : (!decide (b.getD 1 0 = 0) || !decide (b.getD 2 0 = 0) || !decide (b.getD 3 0 = 0)) with
      | true => exact ⟨rfl, rfl⟩
      | false =>
        rw [q3] at h
        simp only [cond_false] at h ⊢
        generalize ht : (((b.getD 0 0).toNat : Nat) : Int) = t at h ⊢
        cases q4 : (wTake (wCnt t) 8 (wTake (wRcv t) 4 (wTake (wSnd t) 4 (false, b.drop 4)).2).2).2.1 with
        | true => exact ⟨rfl, rfl⟩
        | false =>
          rw [q4] at h
          simp only [cond_false] at h ⊢
          generalize wChk t _ _ _ _ = e at h ⊢
          cases q5 : decide (e = 0) with
          | false => exact ⟨rfl, rfl⟩
          | true => rw [q5] at h; exact absurd rfl h
theorem wDec_big {t s r c : Int} {l : List UInt8} (h : wChk t s r c l.length = 0) (h4 : t ≠ 4) : (wDec (wEnc t s r c l ++ [0])).2.2.2.2.2 = 1 := by
  obtain ⟨h1, s1, s2, r1, r2, c1, c2, d1, d2⟩ := wChk_ok h
  obtain ⟨z1, z2, z3⟩ := wChk_zero h
  have hb : wChk t s r c (l ++ [0]).length = 1 := by
    have ht : t = 1 ∨ t = 2 := by rcases wIs_cases h1 with h | h | h <;> simp [h] at h4 ⊢
    have e1 : (decide (((l ++ [0]).length : Int) < wLeast t) || decide (wMost t < ((l ++ [0]).length : Int))) = true := by
      rw [List.length_append, List.length_singleton]
      rcases ht with rfl | rfl <;> simp [wLeast, wMost] at d1 d2 ⊢ <;> omega
    unfold wChk at h ⊢
    rw [h1] at h ⊢
    simp only [Bool.not_true, cond_false] at h ⊢
    cases h3 : (!wSnd t && !decide (s = 0) || !wRcv t && !decide (r = 0) || !wCnt t && !decide (c = 0)) with
    | true => rw [h3] at h; cases h
    | false =>
      rw [h3] at h
      simp only [cond_false] at h ⊢
      cases h5 : (decide (s < 0) || decide (4294967295 < s) || decide (r < 0) || decide (4294967295 < r) || decide (c < 0) || decide (1099511627776 < c)) with
      | true => rw [h5] at h; cases h
      | false => simp only [cond_false]; rw [e1]; rfl
  have e : wEnc t s r c l ++ [0] = wEnc t s r c (l ++ [0]) := by unfold wEnc; simp
  rw [e]
  have ht : ((u8of t).toNat : Int) = t := by
    rw [u8of_toNat]; rcases wIs_cases h1 with rfl | rfl | rfl <;> rfl
  unfold wDec wEnc
  generalize l ++ [0] = l' at hb ⊢
  have e0 : ([u8of t, 0, 0, 0] ++ (bif wSnd t then leB 4 s else []) ++ (bif wRcv t then leB 4 r else []) ++ (bif wCnt t then leB 8 c else []) ++ l') = u8of t :: 0 :: 0 :: 0 :: ((bif wSnd t then leB 4 s else []) ++ ((bif wRcv t then leB 4 r else []) ++ ((bif wCnt t then leB 8 c else []) ++ l'))) := by simp
  rw [e0]
  have hg0 : ∀ (a b c d : UInt8) (q : List UInt8), (a :: b :: c :: d :: q).getD 0 0 = a ∧ (a :: b :: c :: d :: q).getD 1 0 = b ∧ (a :: b :: c :: d :: q).getD 2 0 = c ∧ (a :: b :: c :: d :: q).getD 3 0 = d ∧ (a :: b :: c :: d :: q).drop 4 = q := fun _ _ _ _ _ => ⟨rfl, rfl, rfl, rfl, rfl⟩
  obtain ⟨g0, g1, g2, g3, g4⟩ := hg0 (u8of t) 0 0 0 ((bif wSnd t then leB 4 s else []) ++ ((bif wRcv t then leB 4 r else []) ++ ((bif wCnt t then leB 8 c else []) ++ l')))
  have hlen : decide ((((u8of t :: 0 :: 0 :: 0 :: ((bif wSnd t then leB 4 s else []) ++ ((bif wRcv t then leB 4 r else []) ++ ((bif wCnt t then leB 8 c else []) ++ l')))).length : Nat) : Int) < 4) = false := by
    apply decide_eq_false; simp only [List.length_cons]; omega
  simp only [g0, g1, g2, g3, g4, ht, hlen]
  rw [wTake_enc _ s1 (by omega) (by omega) z1]
  simp only
  rw [wTake_enc _ r1 (by omega) (by omega) z2]
  simp only
  rw [wTake_enc _ c1 (by omega) (by omega) z3]
  simp [h1, hb]
theorem wNum_short {m : Nat} {l : List UInt8} (h : l.length < m) : (wNum m (false, l)).2.1 = true := by
  unfold wNum
  have : decide ((l.length : Int) < (m : Int)) = true := by apply decide_eq_true; omega
  simp only [this, Bool.or_true, cond_true]
theorem wTake_keep {on : Bool} {m : Nat} {q : Bool × List UInt8} (h : q.1 = true) : (wTake on m q).2.1 = true := by
  obtain ⟨b, l⟩ := q
  simp only at h; subst h
  exact wTake_true
theorem wDec_cut {t s r c : Int} {l : List UInt8} {n : Nat} (h : wChk t s r c l.length = 0) (hn : n < 8) : (wDec ((wEnc t s r c l).take n)).2.2.2.2.2 = 8 := by
  obtain ⟨h1, _⟩ := wChk_ok h
  have ht : ((u8of t).toNat : Int) = t := by
    rw [u8of_toNat]; rcases wIs_cases h1 with rfl | rfl | rfl <;> rfl
  have hl : 8 ≤ (wEnc t s r c l).length := by
    rw [wEnc_length]
    rcases wIs_cases h1 with rfl | rfl | rfl <;> simp [wSnd, wRcv, wCnt] <;> omega
  have e0 : ∃ q, wEnc t s r c l = u8of t :: 0 :: 0 :: 0 :: q := ⟨_, by unfold wEnc; simp only [List.append_assoc, List.cons_append, List.nil_append]; rfl⟩
  obtain ⟨q, e0⟩ := e0
  rw [e0] at hl ⊢
  unfold wDec
  simp only
  by_cases h4 : n < 4
  · have : decide (((List.take n (u8of t :: 0 :: 0 :: 0 :: q)).length : Int) < 4) = true := by
      apply decide_eq_true; rw [List.length_take]; omega
    rw [this]; rfl
  · have e : decide (((List.take n (u8of t :: 0 :: 0 :: 0 :: q)).length : Int) < 4) = false := by
      apply decide_eq_false; rw [List.length_take]; simp only [List.length_cons] at hl ⊢; omega
    obtain ⟨m, rfl⟩ : ∃ m, n = m + 4 := ⟨n - 4, by omega⟩
    rw [e]
    simp only [List.take_succ_cons, cond_false, List.getD_cons_zero, List.getD_cons_succ, List.drop_succ_cons, List.drop_zero, ht, h1, Bool.not_true, decide_true, Bool.or_false]
    have hq : (List.take m q).length < 4 := by rw [List.length_take]; omega
    have k : (wTake (wCnt t) 8 (wTake (wRcv t) 4 (wTake (wSnd t) 4 (false, List.take m q)).2).2).2.1 = true := by
      apply wTake_keep
      rcases wIs_cases h1 with rfl | rfl | rfl
      · apply wTake_keep; show (wNum 4 (false, List.take m q)).2.1 = true; exact wNum_short hq
      · apply wTake_keep; show (wNum 4 (false, List.take m q)).2.1 = true; exact wNum_short hq
      · show (wNum 4 (false, List.take m q)).2.1 = true; exact wNum_short hq
    rw [k]; rfl
end Go.Proofs.Ytnopdnclefopbaa
