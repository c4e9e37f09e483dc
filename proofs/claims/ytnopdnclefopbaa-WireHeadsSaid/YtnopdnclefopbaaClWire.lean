/- WireBack, WireTurns, WireHeads: the walks of the statements' functions. -/
import Derived.Test.YtnopdnclefopbaaLawWire
namespace Go.Proofs.Ytnopdnclefopbaa
open Go.RowKit
set_option linter.unusedVariables false
set_option linter.unusedSimpArgs false

theorem encode_ok {t s r c : Int} {l : List UInt8} (hl : l.length ≤ 1000000) (h : wChk t s r c l.length = 0) : Cf Try.prog 44 [] [msgE t s r c l] [] (.tup [.bs (wEnc t s r c l), .i 0]) := by
  have k := cf_wEncode (t := t) (s := s) (r := r) (c := c) hl
  rw [h] at k; exact k
theorem decode_ok {t s r c : Int} {l : List UInt8} (hl : (wEnc t s r c l).length ≤ 1000000) (h : wChk t s r c l.length = 0) : Cf Try.prog 45 [] [.bs (wEnc t s r c l)] [] (.tup [msgE t s r c l, .i 0]) := by
  have k := cf_wDecode hl
  rw [wDec_enc h] at k; exact k
theorem wEnc_short {t s r c : Int} {l : List UInt8} (h : l.length ≤ 236) : (wEnc t s r c l).length ≤ 400 := by
  rw [wEnc_length]
  cases wSnd t <;> cases wRcv t <;> cases wCnt t <;> simp <;> omega
set_option maxRecDepth 100000 in
set_option maxHeartbeats 4000000 in
theorem cf_WireBack {k a b : Int} {s : List UInt8} (hk : IntIn k) (ha : IntIn a) (hb : IntIn b) : Cf Try.prog 16 [] [rawE k a b s] [] (.b true) := by
  obtain ⟨t, x, r, c, l, he, hc, h30, hl⟩ := msg_ok (k := k) (a := a) (b := b) s
  have hM := cf_message (s := s) hk.1 hk.2 ha.1 ha.2 hb.1 hb.2
  obtain ⟨e1, e2, e3, e4, e5⟩ := he.out
  rw [← e1, ← e2, ← e3, ← e4, ← e5] at hM
  clear e1 e2 e3 e4 e5 he
  have hE := encode_ok (by omega) hc
  have hD := decode_ok (by have := wEnc_short (t := t) (s := x) (r := r) (c := c) hl; omega) hc
  refine Cf.introR tabT {} D0 (by kernel_rfl) tab_ok Try.func16 Try.ntmps16 rfl rfl (D0_ok) (by kernel_rfl) ?_
  refine ⟨_, _, _, _, hM, ?_⟩
  repeat (refine Ob.mk ?_ ?_; focus ((exact Eq.refl _)))
  refine ⟨_, _, _, _, hE, ?_⟩
  repeat (refine Ob.mk ?_ ?_; focus ((exact Eq.refl _)))
  refine ⟨_, _, _, _, hD, ?_⟩
  repeat (refine Ob.mk ?_ ?_; (focus (first | (exact Eq.refl _) | (intro _; exact Eq.refl _) | (exact fun hg => beq_t hg) | (exact fun hg => hg) | (simp; done))))
  trivial
set_option maxRecDepth 100000 in
set_option maxHeartbeats 4000000 in
theorem cf_WireTurns {k a b at_ : Int} {y : UInt8} {s : List UInt8} (hk : IntIn k) (ha : IntIn a) (hb : IntIn b) (hat : IntIn at_) : Cf Try.prog 17 [] [rawE k a b s, .i at_, .u8 y] [] (.b true) := by
  obtain ⟨t, x, r, c, l, he, hc, h30, hl⟩ := msg_ok (k := k) (a := a) (b := b) s
  have hM := cf_message (s := s) hk.1 hk.2 ha.1 ha.2 hb.1 hb.2
  obtain ⟨e1, e2, e3, e4, e5⟩ := he.out
  rw [← e1, ← e2, ← e3, ← e4, ← e5] at hM
  clear e1 e2 e3 e4 e5 he
  have hE := encode_ok (by omega) hc
  have hB := wEnc_short (t := t) (s := x) (r := r) (c := c) hl
  obtain ⟨B, hBe⟩ : ∃ B, B = wEnc t x r c l := ⟨_, rfl⟩
  rw [← hBe] at hE hB h30
  have hT := cf_Turned (l := B) (y := y) (by omega) hat.1 hat.2
  have hlen := trn_len B at_ y
  generalize trn B at_ y = C at hT hlen
  have hD := cf_wDecode (l := C) (by omega)
  obtain ⟨t', x', r', c', l', e', hq⟩ : ∃ t' x' r' c' l' e', wDec C = (t', x', r', c', l', e') := ⟨_, _, _, _, _, _, rfl⟩
  have hbad := wDec_bad (b := C)
  have hinv := wDec_inv (b := C)
  rw [hq] at hD hbad hinv
  clear hq
  simp only at hD hbad hinv
  have hdl : e' = 0 → l'.length ≤ 1000000 := fun h => by have := congrArg List.length (hinv h).2; rw [wEnc_length] at this; omega
  refine Cf.introR tabT {fz := [9]} D0 (by kernel_rfl) tab_ok Try.func17 Try.ntmps17 rfl rfl (D0_ok) (by kernel_rfl) ?_
  refine ⟨_, _, _, _, hM, ?_⟩
  repeat (refine Ob.mk ?_ ?_; focus ((exact Eq.refl _)))
  refine ⟨_, _, _, _, hE, ?_⟩
  repeat (refine Ob.mk ?_ ?_; focus ((exact Eq.refl _)))
  refine ⟨_, _, _, _, hT, ?_⟩
  repeat (refine Ob.mk ?_ ?_; focus ((exact Eq.refl _)))
  refine ⟨_, _, _, _, hD, ?_⟩
  repeat (refine Ob.mk ?_ ?_; (focus (first | (exact Eq.refl _) | (intro _; exact Eq.refl _))))
  refine ⟨fun h1 => ?_, fun h1 => ?_⟩
  · skip
    (simp only [Int.reduceToNat, UInt8.reduceOfNat] at h1)
    have c1 := h1
    (simp only [Bool.not_eq_true', Bool.not_eq_false', Bool.not_true, Bool.not_false, Bool.and_eq_true, Bool.or_eq_true, Bool.and_eq_false_iff, Bool.or_eq_false_iff, Bool.not_not, beq_true, beq_false, decide_eq_true_eq, decide_eq_false_iff_not] at c1)
    repeat (refine Ob.mk ?_ ?_; (focus (((simp_all; omega)))))
    trivial
  · skip
    (simp only [Int.reduceToNat, UInt8.reduceOfNat] at h1)
    have c1 := h1
    (simp only [Bool.not_eq_true', Bool.not_eq_false', Bool.not_true, Bool.not_false, Bool.and_eq_true, Bool.or_eq_true, Bool.and_eq_false_iff, Bool.or_eq_false_iff, Bool.not_not, beq_true, beq_false, decide_eq_true_eq, decide_eq_false_iff_not] at c1)
    refine ⟨fun h2 => ?_, fun h2 => ?_⟩
    · skip
      have c2 := h2
      (simp only [Bool.not_eq_true', Bool.not_eq_false', Bool.not_true, Bool.not_false, Bool.and_eq_true, Bool.or_eq_true, Bool.and_eq_false_iff, Bool.or_eq_false_iff, Bool.not_not, beq_true, beq_false, decide_eq_true_eq, decide_eq_false_iff_not] at c2)
      repeat (refine Ob.mk ?_ ?_; (focus (first | (exact fun hg => beq_t hg) | (exact fun hg => hg) | (simp_all; done))))
      trivial
    · skip
      have c2 := h2
      (simp only [Bool.not_eq_true', Bool.not_eq_false', Bool.not_true, Bool.not_false, Bool.and_eq_true, Bool.or_eq_true, Bool.and_eq_false_iff, Bool.or_eq_false_iff, Bool.not_not, beq_true, beq_false, decide_eq_true_eq, decide_eq_false_iff_not] at c2)
      obtain ⟨hc', hC⟩ := hinv c2; have hl' := hdl c2; have hE2 := encode_ok hl' hc'
      refine ⟨_, _, _, _, hE2, ?_⟩
      repeat (refine Ob.mk ?_ ?_; (focus (first | (exact Eq.refl _) | (intro _; exact Eq.refl _) | (simp_all; done))))
      trivial
theorem pk_nat {n : Int} (h : IntIn n) : ∃ j : Nat, pk n 8 = (j : Int) ∧ j < 8 := by
  have h1 := pk_ge n (m := 8) (by decide)
  have h2 := pk_lt n (m := 8) (by decide)
  exact ⟨(pk n 8).toNat, by omega, by omega⟩
set_option maxRecDepth 100000 in
set_option maxHeartbeats 4000000 in
theorem cf_WireHeads {k a b n : Int} {s : List UInt8} (hk : IntIn k) (ha : IntIn a) (hb : IntIn b) (hn : IntIn n) : Cf Try.prog 18 [] [rawE k a b s, .i n] [] (.b true) := by
  obtain ⟨t, x, r, c, l, he, hc, h30, hl⟩ := msg_ok (k := k) (a := a) (b := b) s
  have hM := cf_message (s := s) hk.1 hk.2 ha.1 ha.2 hb.1 hb.2
  obtain ⟨e1, e2, e3, e4, e5⟩ := he.out
  rw [← e1, ← e2, ← e3, ← e4, ← e5] at hM
  clear e1 e2 e3 e4 e5 he
  have hE := encode_ok (by omega) hc
  obtain ⟨j, hj, hj8⟩ := pk_nat hn
  have hP := cf_picked (n := n) (m := 8) hn.1 hn.2 (by decide)
  rw [hj] at hP
  have hB := wEnc_short (t := t) (s := x) (r := r) (c := c) hl
  have hcut := wDec_cut (n := j) hc hj8
  have hbig := wDec_big hc
  generalize wEnc t x r c l = B at hE hB h30 hcut hbig
  have hK := cf_cloneBytes (l := B) (by omega)
  have hD := cf_wDecode (l := B.take j) (by rw [List.length_take]; omega)
  have hF := cf_wDecode (l := B ++ [0]) (by simp; omega)
  obtain ⟨t1, x1, r1, c1, l1, e1, hq1⟩ : ∃ t' x' r' c' l' e', wDec (B.take j) = (t', x', r', c', l', e') := ⟨_, _, _, _, _, _, rfl⟩
  obtain ⟨t2, x2, r2, c2, l2, e2, hq2⟩ : ∃ t' x' r' c' l' e', wDec (B ++ [0]) = (t', x', r', c', l', e') := ⟨_, _, _, _, _, _, rfl⟩
  rw [hq1] at hD hcut
  rw [hq2] at hF hbig
  clear hq1 hq2
  simp only at hD hF hcut hbig
  refine Cf.introR tabT {} D0 (by kernel_rfl) tab_ok Try.func18 Try.ntmps18 rfl rfl (D0_ok) (by kernel_rfl) ?_
  refine ⟨_, _, _, _, hM, ?_⟩
  repeat (refine Ob.mk ?_ ?_; focus ((exact Eq.refl _)))
  refine ⟨_, _, _, _, hE, ?_⟩
  repeat (refine Ob.mk ?_ ?_; (focus (first | (exact Eq.refl _) | (intro _; exact Eq.refl _))))
  refine ⟨fun h1 => ?_, fun h1 => ?_⟩
  · skip
    (simp only [Int.reduceToNat, UInt8.reduceOfNat] at h1)
    have c1 := h1
    (simp only [Bool.not_eq_true', Bool.not_eq_false', Bool.not_true, Bool.not_false, Bool.and_eq_true, Bool.or_eq_true, Bool.and_eq_false_iff, Bool.or_eq_false_iff, Bool.not_not, beq_true, beq_false, decide_eq_true_eq, decide_eq_false_iff_not] at c1)
    repeat (refine Ob.mk ?_ ?_; (focus (((simp_all; omega)))))
    trivial
  · skip
    (simp only [Int.reduceToNat, UInt8.reduceOfNat] at h1)
    have c1 := h1
    (simp only [Bool.not_eq_true', Bool.not_eq_false', Bool.not_true, Bool.not_false, Bool.and_eq_true, Bool.or_eq_true, Bool.and_eq_false_iff, Bool.or_eq_false_iff, Bool.not_not, beq_true, beq_false, decide_eq_true_eq, decide_eq_false_iff_not] at c1)
    refine ⟨_, _, _, _, hP, ?_⟩
    repeat (refine Ob.mk ?_ ?_; focus (first | (exact Eq.refl _) | omega))
    refine ⟨_, _, _, _, hD, ?_⟩
    repeat (refine Ob.mk ?_ ?_; focus ((exact Eq.refl _)))
    refine ⟨_, _, _, _, hK, ?_⟩
    repeat (refine Ob.mk ?_ ?_; (focus (first | (exact Eq.refl _) | (simp only [SrcE.len, Nat.zero_add, List.length_append, List.length_cons, List.length_nil]; omega))))
    refine ⟨_, _, _, _, hF, ?_⟩
    repeat (refine Ob.mk ?_ ?_; (focus (first | (exact Eq.refl _) | (simp only [SrcE.len, Nat.zero_add, List.length_append, List.length_cons, List.length_nil]; done) | (exact fun hg => beq_t hg) | (exact fun hg => hg) | (intro hg; ((intro hq; exact and_i hg (beq_f hq)))) | (simp [SrcE.len]; omega))))
    trivial
end Go.Proofs.Ytnopdnclefopbaa
