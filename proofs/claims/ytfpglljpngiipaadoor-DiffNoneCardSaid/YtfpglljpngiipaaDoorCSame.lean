/- Configurations that are the same: plain facts and contracts. -/
import Derived.Test.YtfpglljpngiipaaDoorCConfC
namespace Go.Proofs.YtfpglljpngiipaaDoor
open Go.RowKit Go.Lib
set_option linter.unusedVariables false
set_option linter.unusedSimpArgs false

def sameP (p q : PeerS) : Bool := (((decide (p.k = q.k) && decide (p.s = q.s)) && decide (p.e = q.e)) && decide (p.a = q.a)) && decide (p.ns = q.ns)
theorem sameP_iff {p q : PeerS} : sameP p q = true ↔ p = q := by
  unfold sameP
  simp only [Bool.and_eq_true, decide_eq_true_eq]
  constructor
  · rintro ⟨⟨⟨⟨h1, h2⟩, h3⟩, h4⟩, h5⟩
    cases p; cases q
    simp only at h1 h2 h3 h4 h5
    subst h1 h2 h3 h4 h5; rfl
  · rintro rfl; exact ⟨⟨⟨⟨rfl, rfl⟩, rfl⟩, rfl⟩, rfl⟩
def samePs : List PeerS → List PeerS → Bool
  | [], [] => true
  | p :: ps, q :: qs => sameP p q && samePs ps qs
  | _, _ => false
theorem samePs_iff : ∀ {ps qs : List PeerS}, samePs ps qs = true ↔ ps = qs
  | [], [] => ⟨fun _ => rfl, fun _ => rfl⟩
  | [], q :: qs => ⟨fun h => (by cases h), fun h => (by cases h)⟩
  | p :: ps, [] => ⟨fun h => (by cases h), fun h => (by cases h)⟩
  | p :: ps, q :: qs => by
    unfold samePs
    rw [Bool.and_eq_true, sameP_iff, samePs_iff, List.cons.injEq]
def sameC (a b : ConfS) : Bool := (decide (a.k = b.k) && decide (a.port = b.port)) && samePs a.ps b.ps
theorem sameC_iff {a b : ConfS} : sameC a b = true ↔ a = b := by
  unfold sameC
  rw [Bool.and_eq_true, Bool.and_eq_true, decide_eq_true_eq, decide_eq_true_eq, samePs_iff]
  constructor
  · rintro ⟨⟨h1, h2⟩, h3⟩
    cases a; cases b
    simp only at h1 h2 h3
    subst h1 h2 h3; rfl
  · rintro rfl; exact ⟨⟨rfl, rfl⟩, rfl⟩
theorem list_ext_at {A : Type} {d : A} {l m : List A} (hl : l.length = m.length) (h : ∀ i, i < l.length → l.getD i d = m.getD i d) : l = m := by
  refine List.ext_getElem hl fun i h1 h2 => ?_
  have := h i h1
  rw [List.getD_eq_getElem?_getD, List.getD_eq_getElem?_getD, List.getElem?_eq_getElem h1, List.getElem?_eq_getElem h2] at this
  exact this
theorem ps_ne_len {ps qs : List PeerS} (h : ¬ ps.length = qs.length) : samePs ps qs = false := by
  cases e : samePs ps qs with
  | false => rfl
  | true => exact absurd (congrArg List.length (samePs_iff.1 e)) h
theorem ps_ne_at {ps qs : List PeerS} {i : Nat} (h : sameP (ps.getD i peer0) (qs.getD i peer0) = false) : samePs ps qs = false := by
  cases e : samePs ps qs with
  | false => rfl
  | true =>
    rw [samePs_iff.1 e, sameP_iff.2 rfl] at h
    cases h
theorem ps_eq_all {ps qs : List PeerS} (hl : ps.length = qs.length) (h : ∀ j, j < ps.length → sameP (ps.getD j peer0) (qs.getD j peer0) = true) : samePs ps qs = true :=
  samePs_iff.2 (list_ext_at hl fun i hi => sameP_iff.1 (h i hi))
set_option maxRecDepth 100000 in
set_option maxHeartbeats 4000000 in
theorem cf_nsEq {ns ms : List (List Bool)} (hl : ns.length ≤ 1000) (hn : ∀ x ∈ ns, x.length ≤ 32) (hm : ms.length ≤ 1000) : Cf Tryd.prog 66 [] [netsE ns, netsE ms] [] (.b (decide (ns = ms))) := by
  refine Cf.introR tabT {} (DR _ _ _ tabT {}) (by kernel_rfl) tab_ok Tryd.func66 Tryd.ntmps66 rfl rfl (DR_ok tab_ok (by kernel_rfl)) (by kernel_rfl) ?_
  refine ⟨fun h1 => ?_, fun h1 => ?_⟩
  · skip
    have c1 := h1
    (simp only [bsX] at c1)
    have hR : decide (ns = ms) = false := decide_eq_false fun e => by (rw [e] at c1; omega)
    repeat (refine Ob.mk ?_ ?_; focus ((exact hR.symm)))
    trivial
  · skip
    have c1 := h1
    (simp only [bsX] at c1)
    have hle : ns.length = ms.length := by omega
    refine ⟨Nat, fun i => ⟨[(0, netsE ns), (1, netsE ms), (12, .i (ns.length : Int)), (13, .i (i : Int))], []⟩, fun i => i ≤ ns.length ∧ ∀ j, j < i → ns.getD j [] = ms.getD j [], fun i => ns.length - i, 0, ⟨Nat.zero_le _, fun j hj => absurd hj (Nat.not_lt_zero _)⟩, ?_, fun i hx1 => ?_⟩
    · skip
      repeat (refine Ob.mk ?_ ?_; (focus (first | (exact Eq.refl _) | (intro hg; ((intro hq; ((simp_all; done))))))))
      trivial
    refine ⟨fun h2 => ?_, fun h2 => ?_⟩
    · skip
      have c2 := h2
      (simp only [bsX] at c2)
      have hi : i < ns.length := by omega
      refine ⟨[0, 0, 3, 7, 0, 0, 48, 112, 255], by kernel_rfl, ?_⟩
      repeat (refine Ob.mk ?_ ?_; focus (first | assumption | omega))
      refine ⟨fun h3 => ?_, fun h3 => ?_⟩
      · skip
        have c3 := h3
        (simp only [bsX] at c3)
        have hR : decide (ns = ms) = false := decide_eq_false fun e => by (subst e; simp at h3)
        repeat (refine Ob.mk ?_ ?_; focus ((exact hR.symm)))
        trivial
      · skip
        have c3 := h3
        (simp only [bsX] at c3)
        have hE : ns.getD i [] = ms.getD i [] := of_decide_eq_true ((netEqB (nsAt_32 hn i)).symm.trans (by simpa using h3))
        have hnx : i + 1 ≤ ns.length ∧ ∀ j, j < i + 1 → ns.getD j [] = ms.getD j [] := ⟨hi, fun j hj => (Nat.lt_or_ge j i).elim (hx1.2 j) fun q => by rw [show j = i from by omega]; exact hE⟩
        repeat (refine Ob.mk ?_ ?_; focus (omega))
        refine ⟨i + 1, (by assumption), (by (simp only [SrcE.len, Nat.zero_add, List.length_append, List.length_cons, List.length_nil]; omega)), ?_⟩
        repeat (refine Ob.mk ?_ ?_; (focus (first | (exact Eq.refl _) | (intro hg; ((intro hq; ((simp_all; done))))))))
        trivial
    · skip
      have c2 := h2
      (simp only [bsX] at c2)
      have hR : decide (ns = ms) = true := decide_eq_true (list_ext_at hle fun j hj => hx1.2 j (by omega))
      repeat (refine Ob.mk ?_ ?_; focus ((exact hR.symm)))
      trivial
theorem cf_nsEqK {p q : PeerS} (hp : PeerOk p) (hq : PeerOk q) : Cf Tryd.prog 66 [] [netsE p.ns, netsE q.ns] [] (.b (decide (p.ns = q.ns))) := cf_nsEq (Nat.le_trans hp.nl (by decide)) hp.nb (Nat.le_trans hq.nl (by decide))
set_option maxRecDepth 100000 in
set_option maxHeartbeats 4000000 in
theorem cf_samePK {p q : PeerS} (hp : PeerOk p) (hq : PeerOk q) : Cf Tryd.prog 65 [] [peerE p, peerE q] [] (.b (sameP p q)) := by
  refine Cf.introR tabT {} D0 (by kernel_rfl) tab_ok Tryd.func65 Tryd.ntmps65 rfl rfl (D0_ok) (by kernel_rfl) ?_
  repeat (refine Ob.mk ?_ ?_; focus (first | (exact fun hg => beq_t hg) | (exact fun hg => hg)))
  refine gx (fun hc => (cf_nsEqK hp hq)) (fun hk => ⟨hk, ?_⟩)
  repeat (refine Ob.mk ?_ ?_; (focus (first | (exact Eq.refl _) | (intro _; exact Eq.refl _) | (exact fun hg => beq_t hg) | (exact fun hg => hg) | (intro hg; ((intro hq; ((simp_all; done))))))))
  trivial
set_option maxRecDepth 100000 in
set_option maxHeartbeats 4000000 in
theorem cf_samePsKO {ps qs : List PeerS} (hl : ps.length ≤ 1000) (hp : ∀ p ∈ ps, PeerOk p) (hq : ∀ p ∈ qs, PeerOk p) : Cf Tryd.prog 64 [] [peersE ps, peersE qs, .v (.func (.func 65) #[] #[])] [] (.b (samePs ps qs)) := by
  refine Cf.introR tabT {} D0 (by kernel_rfl) tab_ok Tryd.func64 Tryd.ntmps64 rfl rfl (D0_ok) (by kernel_rfl) ?_
  refine ⟨fun h1 => ?_, fun h1 => ?_⟩
  · skip
    have c1 := h1
    (simp only [bsX] at c1)
    have hR := ps_ne_len (ps := ps) (qs := qs) (by omega)
    repeat (refine Ob.mk ?_ ?_; focus ((exact hR.symm)))
    trivial
  · skip
    have c1 := h1
    (simp only [bsX] at c1)
    have hle : ps.length = qs.length := by omega
    refine ⟨Nat, fun i => ⟨[(1, peersE qs), (2, .v (.func (.func 65) #[] #[])), (15, peersE ps), (16, .i (ps.length : Int)), (17, .i (i : Int))], []⟩, fun i => i ≤ ps.length ∧ ∀ j, j < i → sameP (ps.getD j peer0) (qs.getD j peer0) = true, fun i => ps.length - i, 0, ⟨Nat.zero_le _, fun j hj => absurd hj (Nat.not_lt_zero _)⟩, ?_, fun i hx1 => ?_⟩
    · skip
      repeat (refine Ob.mk ?_ ?_; (focus (first | (exact Eq.refl _) | (intro hg; ((intro hq; ((simp_all; done))))))))
      trivial
    refine ⟨fun h2 => ?_, fun h2 => ?_⟩
    · skip
      have c2 := h2
      (simp only [bsX] at c2)
      have hi : i < ps.length := by omega
      repeat (refine Ob.mk ?_ ?_; focus (first | assumption | omega))
      refine ⟨_, _, _, _, (cf_samePK (p := ps.getD i peer0) (q := qs.getD i peer0) (hp _ (pA_mem (c := ⟨[], 0, ps⟩) hi)) (hq _ (pA_mem (c := ⟨[], 0, qs⟩) (show i < qs.length by omega)))), ?_⟩
      repeat (refine Ob.mk ?_ ?_; (focus (first | (exact Eq.refl _) | (intro hg; ((intro hq; ((simp_all; done))))))))
      refine ⟨fun h3 => ?_, fun h3 => ?_⟩
      · skip
        have c3 := h3
        (simp only [bsX] at c3)
        have hR := ps_ne_at (ps := ps) (qs := qs) (i := i) (by simpa using h3)
        repeat (refine Ob.mk ?_ ?_; focus ((exact hR.symm)))
        trivial
      · skip
        have c3 := h3
        (simp only [bsX] at c3)
        have hE : sameP (ps.getD i peer0) (qs.getD i peer0) = true := by simpa using h3
        have hnx : i + 1 ≤ ps.length ∧ ∀ j, j < i + 1 → sameP (ps.getD j peer0) (qs.getD j peer0) = true := ⟨hi, fun j hj => (Nat.lt_or_ge j i).elim (hx1.2 j) fun q => by rw [show j = i from by omega]; exact hE⟩
        repeat (refine Ob.mk ?_ ?_; focus (omega))
        refine ⟨i + 1, (by assumption), (by (simp only [SrcE.len, Nat.zero_add, List.length_append, List.length_cons, List.length_nil]; omega)), ?_⟩
        repeat (refine Ob.mk ?_ ?_; (focus (first | (exact Eq.refl _) | (intro hg; ((intro hq; ((simp_all; done))))))))
        trivial
    · skip
      have c2 := h2
      (simp only [bsX] at c2)
      have hR := ps_eq_all hle fun j hj => hx1.2 j (by omega)
      repeat (refine Ob.mk ?_ ?_; focus ((exact hR.symm)))
      trivial
set_option maxRecDepth 100000 in
set_option maxHeartbeats 4000000 in
theorem cf_sameK {a b : ConfS} (ha : ConfOk a) (hb : ConfOk b) : Cf Tryd.prog 28 [] [confE a, confE b] [] (.b (sameC a b)) := by
  refine Cf.introR tabT {} D0 (by kernel_rfl) tab_ok Tryd.func28 Tryd.ntmps28 rfl rfl (D0_ok) (by kernel_rfl) ?_
  repeat (refine Ob.mk ?_ ?_; focus (first | (exact fun hg => beq_t hg) | (exact fun hg => hg)))
  refine gx (fun hc => (cf_samePsKO (ps := a.ps) (qs := b.ps) (Nat.le_trans ha.pl (by decide)) (fun p hp => (ha.ps p hp).1) (fun p hp => (hb.ps p hp).1))) (fun hk => ⟨hk, ?_⟩)
  repeat (refine Ob.mk ?_ ?_; (focus (first | (exact Eq.refl _) | (intro _; exact Eq.refl _) | (exact fun hg => beq_t hg) | (exact fun hg => hg) | (intro hg; ((intro hq; ((simp_all; done))))))))
  trivial
set_option maxRecDepth 100000 in
set_option maxHeartbeats 4000000 in
theorem cf_samePD {p q : PeerS} (hp : PeerOk p) (hq : PeerOk q) : Cf Tryd.prog 67 [] [peerE p, peerE q] [] (.b (sameP p q)) := by
  refine Cf.introR tabT {} D0 (by kernel_rfl) tab_ok Tryd.func67 Tryd.ntmps67 rfl rfl (D0_ok) (by kernel_rfl) ?_
  repeat (refine Ob.mk ?_ ?_; focus (first | (exact fun hg => beq_t hg) | (exact fun hg => hg)))
  refine gx (fun hc => (cf_nsEqK hp hq)) (fun hk => ⟨hk, ?_⟩)
  repeat (refine Ob.mk ?_ ?_; (focus (first | (exact Eq.refl _) | (intro _; exact Eq.refl _) | (exact fun hg => beq_t hg) | (exact fun hg => hg) | (intro hg; ((intro hq; ((simp_all; done))))))))
  trivial
set_option maxRecDepth 100000 in
set_option maxHeartbeats 4000000 in
theorem cf_samePsDO {ps qs : List PeerS} (hl : ps.length ≤ 1000) (hp : ∀ p ∈ ps, PeerOk p) (hq : ∀ p ∈ qs, PeerOk p) : Cf Tryd.prog 64 [] [peersE ps, peersE qs, .v (.func (.func 67) #[] #[])] [] (.b (samePs ps qs)) := by
  refine Cf.introR tabT {} D0 (by kernel_rfl) tab_ok Tryd.func64 Tryd.ntmps64 rfl rfl (D0_ok) (by kernel_rfl) ?_
  refine ⟨fun h1 => ?_, fun h1 => ?_⟩
  · skip
    have c1 := h1
    (simp only [bsX] at c1)
    have hR := ps_ne_len (ps := ps) (qs := qs) (by omega)
    repeat (refine Ob.mk ?_ ?_; focus ((exact hR.symm)))
    trivial
  · skip
    have c1 := h1
    (simp only [bsX] at c1)
    have hle : ps.length = qs.length := by omega
    refine ⟨Nat, fun i => ⟨[(1, peersE qs), (2, .v (.func (.func 67) #[] #[])), (15, peersE ps), (16, .i (ps.length : Int)), (17, .i (i : Int))], []⟩, fun i => i ≤ ps.length ∧ ∀ j, j < i → sameP (ps.getD j peer0) (qs.getD j peer0) = true, fun i => ps.length - i, 0, ⟨Nat.zero_le _, fun j hj => absurd hj (Nat.not_lt_zero _)⟩, ?_, fun i hx1 => ?_⟩
    · skip
      repeat (refine Ob.mk ?_ ?_; (focus (first | (exact Eq.refl _) | (intro hg; ((intro hq; ((simp_all; done))))))))
      trivial
    refine ⟨fun h2 => ?_, fun h2 => ?_⟩
    · skip
      have c2 := h2
      (simp only [bsX] at c2)
      have hi : i < ps.length := by omega
      repeat (refine Ob.mk ?_ ?_; focus (first | assumption | omega))
      refine ⟨_, _, _, _, (cf_samePD (p := ps.getD i peer0) (q := qs.getD i peer0) (hp _ (pA_mem (c := ⟨[], 0, ps⟩) hi)) (hq _ (pA_mem (c := ⟨[], 0, qs⟩) (show i < qs.length by omega)))), ?_⟩
      repeat (refine Ob.mk ?_ ?_; (focus (first | (exact Eq.refl _) | (intro hg; ((intro hq; ((simp_all; done))))))))
      refine ⟨fun h3 => ?_, fun h3 => ?_⟩
      · skip
        have c3 := h3
        (simp only [bsX] at c3)
        have hR := ps_ne_at (ps := ps) (qs := qs) (i := i) (by simpa using h3)
        repeat (refine Ob.mk ?_ ?_; focus ((exact hR.symm)))
        trivial
      · skip
        have c3 := h3
        (simp only [bsX] at c3)
        have hE : sameP (ps.getD i peer0) (qs.getD i peer0) = true := by simpa using h3
        have hnx : i + 1 ≤ ps.length ∧ ∀ j, j < i + 1 → sameP (ps.getD j peer0) (qs.getD j peer0) = true := ⟨hi, fun j hj => (Nat.lt_or_ge j i).elim (hx1.2 j) fun q => by rw [show j = i from by omega]; exact hE⟩
        repeat (refine Ob.mk ?_ ?_; focus (omega))
        refine ⟨i + 1, (by assumption), (by (simp only [SrcE.len, Nat.zero_add, List.length_append, List.length_cons, List.length_nil]; omega)), ?_⟩
        repeat (refine Ob.mk ?_ ?_; (focus (first | (exact Eq.refl _) | (intro hg; ((intro hq; ((simp_all; done))))))))
        trivial
    · skip
      have c2 := h2
      (simp only [bsX] at c2)
      have hR := ps_eq_all hle fun j hj => hx1.2 j (by omega)
      repeat (refine Ob.mk ?_ ?_; focus ((exact hR.symm)))
      trivial
set_option maxRecDepth 100000 in
set_option maxHeartbeats 4000000 in
theorem cf_sameD {a b : ConfS} (ha : ConfOk a) (hb : ConfOk b) : Cf Tryd.prog 29 [] [confE a, confE b] [] (.b (sameC a b)) := by
  refine Cf.introR tabT {} D0 (by kernel_rfl) tab_ok Tryd.func29 Tryd.ntmps29 rfl rfl (D0_ok) (by kernel_rfl) ?_
  repeat (refine Ob.mk ?_ ?_; focus (first | (exact fun hg => beq_t hg) | (exact fun hg => hg)))
  refine gx (fun hc => (cf_samePsDO (ps := a.ps) (qs := b.ps) (Nat.le_trans ha.pl (by decide)) (fun p hp => (ha.ps p hp).1) (fun p hp => (hb.ps p hp).1))) (fun hk => ⟨hk, ?_⟩)
  repeat (refine Ob.mk ?_ ?_; (focus (first | (exact Eq.refl _) | (intro _; exact Eq.refl _) | (exact fun hg => beq_t hg) | (exact fun hg => hg) | (intro hg; ((intro hq; ((simp_all; done))))))))
  trivial
end Go.Proofs.YtfpglljpngiipaaDoor
