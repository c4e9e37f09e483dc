/- DiffNone: plain facts, and the walk of the statement's function. -/
import Derived.Test.YtfpglljpngiipaaDoorCConf
import Derived.Test.YtfpglljpngiipaaDoorCDiff
namespace Go.Proofs.YtfpglljpngiipaaDoor
open Go.RowKit Go.Lib
set_option linter.unusedVariables false
set_option linter.unusedSimpArgs false

theorem bl_tot : ∀ x y : List UInt8, Op.bytesLess x y = false → Op.bytesLess y x = false → x = y
  | [], [], _, _ => rfl
  | [], _ :: _, h, _ => by simp [Op.bytesLess] at h
  | _ :: _, [], _, h => by simp [Op.bytesLess] at h
  | a :: x, b :: y, h, k => by
    unfold Op.bytesLess at h k
    rw [Bool.or_eq_false_iff] at h k
    have h1 : ¬ a < b := of_decide_eq_false h.1
    have k1 : ¬ b < a := of_decide_eq_false k.1
    have e : a = b := by
      apply UInt8.toNat_inj.1
      have h2 : ¬ a.toNat < b.toNat := h1
      have k2 : ¬ b.toNat < a.toNat := k1
      omega
    subst e
    have h3 := h.2; have k3 := k.2
    rw [beq_self_eq_true, Bool.true_and] at h3 k3
    rw [bl_tot x y h3 k3]
theorem keyLt_no {p q : PeerS} (h : keyLt p q) (k : keyLt q p) : False := h.2 (bl_tot _ _ h.1 k.1)
theorem ps_unique : ∀ {ps qs : List PeerS}, ps.Pairwise keyLt → qs.Pairwise keyLt → (∀ p ∈ ps, p ∈ qs) → (∀ p ∈ qs, p ∈ ps) → ps = qs
  | [], [], _, _, _, _ => rfl
  | [], q :: qs, _, _, _, h => absurd (h q (List.mem_cons_self ..)) (by simp)
  | p :: ps, [], _, _, h, _ => absurd (h p (List.mem_cons_self ..)) (by simp)
  | p :: ps, q :: qs, h1, h2, h3, h4 => by
    obtain ⟨a1, a2⟩ := List.pairwise_cons.1 h1
    obtain ⟨b1, b2⟩ := List.pairwise_cons.1 h2
    have e : p = q := by
      rcases List.mem_cons.1 (h3 p (List.mem_cons_self ..)) with k | k
      · exact k
      · rcases List.mem_cons.1 (h4 q (List.mem_cons_self ..)) with k2 | k2
        · exact k2.symm
        · exact absurd (keyLt_no (b1 p k) (a1 q k2)) id
    subst e
    rw [ps_unique a2 b2 (fun x hx => ?_) (fun x hx => ?_)]
    · rcases List.mem_cons.1 (h3 x (List.mem_cons_of_mem _ hx)) with k | k
      · subst k; exact absurd rfl (a1 x hx).2
      · exact k
    · rcases List.mem_cons.1 (h4 x (List.mem_cons_of_mem _ hx)) with k | k
      · subst k; exact absurd rfl (b1 x hx).2
      · exact k
theorem mem_pA {c : ConfS} {p : PeerS} (h : p ∈ c.ps) : ∃ i, i < c.ps.length ∧ pA c i = p := by
  obtain ⟨i, hi, e⟩ := List.mem_iff_getElem.1 h
  refine ⟨i, hi, ?_⟩
  show c.ps.getD i peer0 = p
  rw [List.getD_eq_getElem?_getD, List.getElem?_eq_getElem hi]; exact e
theorem f_self {c : ConfS} (h : ConfOk c) {p : PeerS} (hp : p ∈ c.ps) : fE c.ps p.k = 0 ∧ fP c.ps p.k = p := by
  obtain ⟨i, hi, rfl⟩ := mem_pA hp
  have e := idxP_in h hi
  unfold fE fP fI
  rw [e, if_neg (by omega), if_neg (by omega), Int.toNat_natCast]
  exact ⟨rfl, rfl⟩
theorem gone_self (p : PeerS) : goneB p p = false := by
  unfold goneB
  cases decide (p.e = []) <;> rfl
theorem chP_self (p : PeerS) : chP p p = [] := by
  refine chP_nil ?_
  unfold chO chH k6 k7 k8
  rw [if_pos rfl, if_pos rfl, if_pos rfl, if_pos rfl]; rfl
theorem flat_nil {A B : Type} {l : List A} {f : A → List B} (h : ∀ x ∈ l, f x = []) : l.flatMap f = [] := by
  induction l with
  | nil => rfl
  | cons x l ih =>
    rw [List.flatMap_cons, h x (List.mem_cons_self ..), ih fun y hy => h y (List.mem_cons_of_mem _ hy)]; rfl
theorem flat_nil_of {A B : Type} {l : List A} {f : A → List B} (h : l.flatMap f = []) : ∀ x ∈ l, f x = [] := fun x hx => by
  cases e : f x with
  | nil => rfl
  | cons y r =>
    have : y ∈ l.flatMap f := List.mem_flatMap.2 ⟨x, hx, by rw [e]; exact List.mem_cons_self ..⟩
    rw [h] at this; cases this
theorem diff_self {c : ConfS} (h : ConfOk c) : diffS c c = [] := by
  unfold diffS dB dA d2 d3
  rw [List.take_length, if_pos rfl, if_pos rfl, flat_nil fun p hp => ?_, flat_nil fun p hp => ?_]
  · rfl
  · obtain ⟨e1, e2⟩ := f_self h hp
    unfold d4
    rw [e1, e2, gone_self, if_neg (by simp), chP_self]
  · obtain ⟨e1, e2⟩ := f_self h hp
    unfold d1
    rw [e1, e2, gone_self, if_neg (by simp)]
theorem chP_eq {p q : PeerS} (h : chP p q = []) (hk : p.k = q.k) : p = q := by
  have h0 : chO p q = [] := by
    unfold chP at h
    by_cases e : chO p q = []
    · exact e
    · rw [if_neg e] at h; cases h
  have hns : p.ns = q.ns := by
    by_cases e : p.ns = q.ns
    · exact e
    · unfold chO at h0
      rw [if_neg e] at h0
      have := (chL_len (p := p) (q := q) q.ns.length).1
      rw [h0] at this; exact absurd this (by decide)
  unfold chO at h0
  rw [if_pos hns] at h0
  unfold chH at h0
  obtain ⟨h1, h8⟩ := List.append_eq_nil_iff.1 h0
  obtain ⟨h6, h7⟩ := List.append_eq_nil_iff.1 h1
  have e6 : p.s = q.s := by
    unfold k6 at h6
    by_cases e : p.s = q.s
    · exact e
    · rw [if_neg e] at h6; cases h6
  have e7 : p.e = q.e := by
    unfold k7 at h7
    by_cases e : p.e = q.e
    · exact e
    · rw [if_neg e] at h7; cases h7
  have e8 : p.a = q.a := by
    unfold k8 at h8
    by_cases e : p.a = q.a
    · exact e
    · rw [if_neg e] at h8; cases h8
  exact sameP_iff.1 (by unfold sameP; rw [decide_eq_true hk, decide_eq_true e6, decide_eq_true e7, decide_eq_true e8, decide_eq_true hns]; rfl)
theorem diff_eq {a b : ConfS} (ha : ConfOk a) (hb : ConfOk b) (h : diffS a b = []) : a = b := by
  unfold diffS dB at h
  obtain ⟨h1, h4⟩ := List.append_eq_nil_iff.1 h
  obtain ⟨h2, h3⟩ := List.append_eq_nil_iff.1 h1
  obtain ⟨h1, h2⟩ := List.append_eq_nil_iff.1 h2
  unfold dA at h1
  rw [List.take_length] at h1 h4
  have f1 := flat_nil_of h1
  have f4 := flat_nil_of h4
  have ek : a.k = b.k := by
    unfold d2 at h2
    by_cases e : a.k = b.k
    · exact e
    · rw [if_neg e] at h2; cases h2
  have ep : a.port = b.port := by
    unfold d3 at h3
    by_cases e : a.port = b.port
    · exact e
    · rw [if_neg e] at h3; cases h3
  have s2 : ∀ q ∈ b.ps, q ∈ a.ps := fun q hq => by
    have k := f4 q hq
    unfold d4 at k
    split at k
    · exact absurd (congrArg List.length k) (by show (showP q).length ≠ 0; have : 1 ≤ (showP q).length := Nat.succ_le_succ (Nat.zero_le _); omega)
    · next hn =>
      rw [not_or] at hn
      have hfe : fE a.ps q.k = 0 := Decidable.not_not.1 hn.1
      obtain ⟨_, _, _, hm, hkk⟩ := fI_in hfe
      have := chP_eq k hkk
      rw [this] at hm; exact hm
  have s1 : ∀ p ∈ a.ps, p ∈ b.ps := fun p hp => by
    have k := f1 p hp
    unfold d1 at k
    split at k
    · cases k
    · next hn =>
      rw [not_or] at hn
      have hfe : fE b.ps p.k = 0 := Decidable.not_not.1 hn.1
      obtain ⟨_, _, _, hm, hkk⟩ := fI_in hfe
      have h5 := (f_self ha (s2 _ hm)).2
      have h6 := (f_self ha hp).2
      rw [hkk, h6] at h5
      rw [h5]; exact hm
  have e := ps_unique ha.inc hb.inc s1 s2
  cases a; cases b
  simp only at ek ep e
  subst ek ep e; rfl
theorem diff_len {a b : ConfS} (ha : ConfOk a) (hb : ConfOk b) : decide (((diffS a b).length : Int) = 0) = sameC a b := by
  cases h : sameC a b with
  | true =>
    have e := sameC_iff.1 h
    subst e
    rw [diff_self ha]; rfl
  | false =>
    refine decide_eq_false fun k => ?_
    have e := diff_eq ha hb (List.length_eq_zero_iff.1 (by omega))
    rw [sameC_iff.2 e] at h; cases h
def conf0 : ConfS := ⟨[], 0, []⟩
def conf5 : ConfS := ⟨[], 5, []⟩
theorem conf0_ok : ConfOk conf0 := ⟨.inl rfl, ⟨by decide, by decide⟩, by decide, fun p h => (by cases h), List.Pairwise.nil, List.Pairwise.nil⟩
theorem conf5_ok : ConfOk conf5 := ⟨.inl rfl, ⟨by decide, by decide⟩, by decide, fun p h => (by cases h), List.Pairwise.nil, List.Pairwise.nil⟩
theorem confR_key (l : List RawS) : (confR l).k ≠ [] := fun e => by
  have := keyN_len 0 (by decide)
  rw [show keyN 0 = [] from e] at this; cases this
set_option maxRecDepth 100000 in
set_option maxHeartbeats 4000000 in
theorem cf_DiffNone {l m : List RawS} (hl : ∀ x ∈ l, x.inn) (hn : (l.length : Int) ≤ 9223372036854775807) (hm : ∀ x ∈ m, x.inn) (hnm : (m.length : Int) ≤ 9223372036854775807) : Cf Tryd.prog 7 [] [rawsE l, rawsE m] [] (.b true) := by
  have hA := confR_ok l
  have hB := confR_ok m
  have kA := cf_kConf hl hn
  have kB := cf_kConf hm hnm
  have nA := confR_key l
  have nB := confR_key m
  obtain ⟨A, eA⟩ : ∃ A, A = confR l := ⟨_, rfl⟩
  obtain ⟨B, eB⟩ : ∃ B, B = confR m := ⟨_, rfl⟩
  rw [← eA] at hA kA nA
  rw [← eB] at hB kB nB
  have e1 : ((diffS A A).length : Int) = 0 := by rw [diff_self hA]; rfl
  have e2 := diff_len hA hB
  have e3 : ((diffS conf0 conf5).length : Int) = 1 := rfl
  have o1 := cf_OfO (a := A) (b := A) hA hA (.inr nA)
  have o2 := cf_OfO (a := A) (b := B) hA hB (.inr nB)
  have o3 := cf_OfO (a := conf0) (b := conf5) conf0_ok conf5_ok (.inl rfl)
  have s1 := cf_sameK (a := A) (b := B) hA hB
  have s2 := cf_sameD (a := A) (b := B) hA hB
  generalize diffS A A = D1 at o1 e1
  generalize diffS A B = D2 at o2 e2
  generalize diffS conf0 conf5 = D3 at o3 e3
  generalize sameC A B = S at s1 s2 e2
  refine Cf.introR tabT {} (DR _ _ _ tabT {}) (by kernel_rfl) tab_ok Tryd.func7 Tryd.ntmps7 rfl rfl (DR_ok tab_ok (by kernel_rfl)) (by kernel_rfl) ?_
  refine ⟨_, _, _, _, kA, ?_⟩
  repeat (refine Ob.mk ?_ ?_; (focus (((simp [e1, e2, e3]; done)))))
  refine ⟨_, _, _, _, kB, ?_⟩
  repeat (refine Ob.mk ?_ ?_; (focus (((simp [e1, e2, e3]; done)))))
  refine ⟨_, _, _, _, o1, ?_⟩
  repeat (refine Ob.mk ?_ ?_; (focus (((simp [e1, e2, e3]; done)))))
  refine ⟨_, _, _, _, o2, ?_⟩
  repeat (refine Ob.mk ?_ ?_; (focus (((simp [e1, e2, e3]; done)))))
  refine ⟨_, _, _, _, o3, ?_⟩
  repeat (refine Ob.mk ?_ ?_; focus ((exact Eq.refl _)))
  refine ⟨[0, 1, 3, 7, 15, 31, 63, 127, 255, 511, 1023, 2047, 4095, 8191, 16383, 32767, 65535, 131071, 262143, 524287, 1048575, 2097151, 4194303, 8388607, 2097151, 2097151, 52428799, 134217727, 268435455, 536870911, 1073741823, 1073741823, 4294967295, 1073741823, 1073741823, 34359738367, 68719476735, 137438953471, 274877906943], by kernel_rfl, ?_⟩
  repeat (refine Ob.mk ?_ ?_; (focus (((simp [e1, e2, e3]; done)))))
  refine gx (fun hc => s1) (fun hk => ⟨hk, ?_⟩)
  repeat (refine Ob.mk ?_ ?_; (focus (((simp [e1, e2, e3]; done)))))
  refine gx (fun hc => s2) (fun hk => ⟨hk, ?_⟩)
  repeat (refine Ob.mk ?_ ?_; (focus (((rw [e1, e2, e3]; simp; done)))))
  refine gx (fun hc => s1) (fun hk => ⟨hk, ?_⟩)
  repeat (refine Ob.mk ?_ ?_; (focus (((rw [e1, e2, e3]; simp; done)))))
  trivial
end Go.Proofs.YtfpglljpngiipaaDoor
